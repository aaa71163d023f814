/- Part of TopMembers. -/
import Derived.Test.YtfddbnmfllgifaaGreatDoorA25
import Derived.Lib.SmallJoins
import Derived.Test.YtfddbnmfllgifaaGreatDoorA38
set_option linter.unusedVariables false
set_option linter.unusedSimpArgs false
set_option maxHeartbeats 64000000
set_option maxRecDepth 100000
namespace Go.Proofs.YtfddbnmfllgifaaGreatDoor
open Go.ChangeShapes Go.WideShapes Go.ChangeAt Go.RowKit Cod
section
variable {H:Type}{enc:TypeId×Value→H}{W:World}{fuel:Nat}{cs:List Value}{x:DataW H×List MemPlace}
theorem drop_one{l:List Value}{i:Nat}{v:Value}(h:(l.drop i).take 1=[v]):l[i]? =some v:=by
 have :=congrArg (·[0]?) h;simpa[List.getElem?_take,List.getElem?_drop]using this
theorem wJ(h:DataW.trod enc Tryz.prog W 0 (fun _=>true) true fuel 35 cs=some x):∃l:List UInt8,l.length=32∧∀i,i < 32→cs[i]? =some (vB (l.getD i 0)):=by
 obtain⟨xs,m,rfl,_,_,hn,ae⟩:=DataW.trod_array Tryz.underlying35 h;have af:Tryz.prog.cellsOf 5=1:=by kernel_rfl
 have each:∀i,i < 32→∃z,cs[i]? =some (.int .u8 z)∧(Lit.int .u8 z).wf=true:=by
  intro i hi;have h1:=ae i hi;rw[Yh (by omega)]at h1;obtain⟨z,e1,_,e3⟩:=DataW.trod_int Tryz.underlying5 h1;rw[af,Nat.mul_one]at e1;exact⟨z,drop_one e1,e3⟩
 refine⟨(List.range 32).map fun(i:Nat)=>match(cs[i]? :Option Value)with | some (Value.int _ z)=>UInt8.ofNat z.toNat | _=>0,by simp,fun i hi=>?_⟩;obtain⟨z,e1,e2⟩:=each i hi;rw[e1,QB e2];congr 2;rw[Yd,Xg,Xh hi];simp[e1]
theorem Kq{z:Int}(h:(Lit.int .i64 z).wf=true):bQ z:=by have :=i64_bd h;unfold bQ;omega
theorem lq{cs:List Value}{s:Nat}{c:Nat→Value}(hl:cs.length=s)(h:∀i,i < s→cs[i]? =some (c i)):cs=(List.range s).map c:=by
 apply List.ext_getElem?;intro i;by_cases hi:i < s
 · rw[h i hi,Xg,Xh hi];rfl
 · rw[List.getElem?_eq_none (by omega),List.getElem?_eq_none (by simp;omega)]
theorem dZ{fs:Array Field}{cs:List Value}{xs:List (DataW H×List MemPlace)}{n:Nat}(hlen:xs.length=fs.size)
 (hf:∀(i:Nat) (f:Field),fs[i]? =some f→DataW.trod enc Tryz.prog W 0 (fun _=>true) true n f.type ((cs.drop f.offset).take (Tryz.prog.cellsOf f.type))=xs[i]?)
 (i o c:Nat) (T:TypeId) {f:Field} (hi:fs[i]? =some f) (ht:f.type=T) (ho:f.offset=o) (hc:Tryz.prog.cellsOf T=c):∃y,DataW.trod enc Tryz.prog W 0 (fun _=>true) true n T ((cs.drop o).take c)=some y:=by
 have h1:=hf i f hi;have ae:i < fs.size:=(Yi.1 hi).1;rw[Yh (by omega),ht,ho,hc]at h1;exact⟨_,h1⟩
theorem dG{fs:Array Field}{cs:List Value}{xs:List (DataW H×List MemPlace)}{n:Nat}(hlen:xs.length=fs.size)
 (hf:∀(i:Nat) (f:Field),fs[i]? =some f→DataW.trod enc Tryz.prog W 0 (fun _=>true) true n f.type ((cs.drop f.offset).take (Tryz.prog.cellsOf f.type))=xs[i]?)
 (i o:Nat) {f:Field} (hi:fs[i]? =some f) (ht:f.type=3) (ho:f.offset=o):∃z,cs[o]? =some (.int .i64 z)∧bQ z:=by
 obtain⟨y,h1⟩:=dZ hlen hf i o 1 3 hi ht ho (by kernel_rfl);obtain⟨z,e1,_,e3⟩:=DataW.trod_int Tryz.underlying3 h1;exact⟨z,drop_one e1,Kq e3⟩
end
end Go.Proofs.YtfddbnmfllgifaaGreatDoor
namespace Go.Proofs.YtfddbnmfllgifaaGreatDoor
open Go.RowKit Cod
theorem aY{P:Program}{C:World→Prop}{ops:Array Oper}{rest:List Oper}{o:Oper}{a:Act}{Q:Act→Prop}(hw:Region.wanted o (yielded ops a.tmps)=true)
 (h:wpQuiet P ops C Q ({o with guard:=none}::rest) a):wpQuiet P ops C Q (o::rest) a:=by
 unfold wpQuiet at h ⊢;rw[if_pos hw];rw[if_pos (show Region.wanted {o with guard:=none} (yielded ops a.tmps)=true from rfl)]at h;exact h
theorem run_append_nil{P:Program}(w:World)(base:Nat)(t ty e:TypeId)(i:TypeInfo)(size:Nat)(ht:P.underlying t=some (.slice e))(hi:P.info? e=some i)
 (v:Value) (n:Nat) (xs:List Value) (ae:w.ownsRow base e size v n xs) (c:Nat):(Builtin.append_ #[t,t] ty #[v,.slice none 0 c]).run P w=.ok v w:=by
 rcases ae.2 with⟨rfl,rfl⟩ | ⟨g,cap,cur,rfl,_,_,hnc,_⟩
 · simp[Builtin.append_,run_underlying ht,sizeOf,typeInfo,hi,Builtin.lenOf,Builtin.firstCells]
 · simp[Builtin.append_,run_underlying ht,sizeOf,typeInfo,hi,Builtin.lenOf,Builtin.firstCells,hnc,storeCells]
section
variable {α:Type}{T:TypeId}{s:Nat}{c:α→Nat→Value}{w w':World}{base:Nat}{v:Value}{l:List α}
theorem bK{z:Value}{bytes:Nat}{t:TypeId}{ops:Array Oper}{rest:List Oper}{o:Oper}{a:Act}{Q:Exit→Act→World→Prop}(ag:o.guard=none)(x y:Operand)
 (hinfo:(Tryz.prog.info? T).map (fun i=>(i.zero,i.size,i.bytes))=some (some z,s,bytes)) (ht:Tryz.prog.underlying t=some (.slice T)) (hz:z.cells.size=s) (hs:0 < s) (ah:bytes≤1000) (h1:∀u j,(c u j).oneCell'=true) (d:α)
 (ho:o.op=.call {callee:=.builtin .append,args:= #[x,y],argTypes:= #[t,t]})
 (base:Nat) (v:Value) (l:List α) (hx:a.eval x=v) (ae:ax T s c w base v l) (u:Value) (l2:List α) (hy:a.eval y=u)
 (hc:aN s w u l2.length (fun i=>c (l2.getD i d))) (hlen:l.length+l2.length≤1000000) (hbase:base≤w.heap.size)
 (h:∀v' w',Hid (ax T s c w' base v' (l++l2))→Hid (ay w v w' v')→wpList Tryz.prog ops Q rest (a.put o.dst v') w'):wpList Tryz.prog ops Q (o::rest) a w:=by
 obtain⟨i0,hi,ai,aj,ak⟩:=gV hinfo
 have fin:∀v' w',w'.ownsRow base T s v' (l.length+l2.length) (bJ s c l++bJ s c l2)→ay w v w' v'→wpList Tryz.prog ops Q rest (a.put o.dst v') w':=by
  intro v' w' h3 h4;refine h v' w' ?_ h4;unfold Hid ax;rw[Yf,pG];exact h3
 have af:∀x∈bJ s c l2,x.oneCell'=true:=by
  intro u hu;unfold bJ at hu;obtain⟨b,_,hb⟩:=List.mem_flatMap.1 hu;obtain⟨j,_,rfl⟩:=Yo.1 hb;exact h1 _ _
 rcases hc with⟨⟨ad,k,rfl,_⟩,h0⟩ | ⟨b,off,cap,rfl,_,_,_,_,hcell⟩
 · obtain rfl:l2=[]:=Yz h0
   cases ad with
   | none=>
     refine wpList_plain ag fun K hK=>?_;have hr:=run_append_nil (P:=Tryz.prog) w base t o.type T i0 s ht hi v l.length (bJ s c l) ae k;unfold Oper.wp execOp;simp only[ho,resolve,invoke,builtin,Sem.run_bind,Sem.run_pure,Result.andThen_ok,List.map_toArray,Yw,List.map_nil,hx,hy,hr];exact hK _ _ (fin v w (by rw[show bJ s c ([]:List α)=[]from rfl,List.append_nil];exact ae) ⟨World.grownBy.refl w _,.inl rfl⟩)
   | some ad=>
     exact jh ag x y t ho base T i0 z s bytes ht hi ai aj ak hz hs v l.length (bJ s c l) hx ae ad 0 k (bJ s c ([]:List α)) hy (by simp[bJ]) (fun j u hj=>by simp[bJ]at hj) af (by simp only[Xc]at hlen;unfold maxLen;omega) (Yc (Nat.mul_le_mul hlen ah) (by decide)) hbase fin
 · refine jh ag x y t ho base T i0 z s bytes ht hi ai aj ak hz hs v l.length (bJ s c l) hx ae ⟨b,off,none⟩ l2.length cap (bJ s c l2) hy (bI l2) ?_ af (by unfold maxLen;omega) (Yc (Nat.mul_le_mul hlen ah) (by decide)) hbase fin;intro j u hj;have au:j < l2.length*s:=(by have :=(Ys.1 hj).1;rwa[bI]at this);have hi:j / s < l2.length:=(Nat.div_lt_iff_lt_mul hs).2 au;have hm:j % s < s:=Nat.mod_lt _ hs;have e:=Nat.div_add_mod j s;have hg:=dE d (s:=s) (c:=c) l2 (j / s) (j % s) hi hm;rw[e]at hg;have h5:=hcell _ hi _ hm;rw[Addr.add_mid,show off+j=off+s*(j / s)+j % s by omega,h5,←hj];exact hg.symm
end
theorem aN.app{s n:Nat}{c:Nat→Nat→Value}{w w':World}{u v v':Value}(h:aN s w u n c)(st:ay w v w' v')(ae:∀b,v.ownBlock=some b→∀k off,u=.slice (some ⟨b,off,none⟩) n k→n=0):aN s w' u n c:=by
 rcases h with h | ⟨b,off,cap,h1,h2,h3,h4,h5,h6⟩
 · exact .inl h
 · have hb:v.ownBlock≠some b:=fun e=>(by have :=ae b e cap off h1;omega);exact .inr ⟨b,off,cap,h1,h2,h3,h4,Yg h5 st.1.size,fun i hi j hj=>(World.cell?_of_block (w:=w) (w':=w') (a:=⟨b,off+s*i+j,none⟩) (st.block h5 hb)).trans (h6 i hi j hj)⟩
abbrev keep(n:Nat):Tc.Rl:=Tc.Rl.stay (fun k=>k < n)
theorem az{n:Nat}{w W:World}(b:Below n w W):(keep n).r w W:=fun k hk=>b.block k hk
theorem bG{n:Nat}{w W:World}{g N:Nat}{T:TypeId}{f:Nat→Value}(h:ag w g T N f)(hn:g < n)(hr:(keep n).r w W):ag W g T N f:=aJ (S:=fun k=>k < n) h hn hr
theorem aQ{n:Nat}{w W:World}{b off:Nat}{v:Value}(h:w.cell? ⟨b,off,none⟩=some v)(hn:b < n)(hr:(keep n).r w W):W.cell? ⟨b,off,none⟩=some v:=(fA (S:=fun k=>k < n) hn hr).trans h
theorem aO{n:Nat}{w w':World}{v v':Value}(st:ay w v w' v')(hn:n≤w.heap.size)(hb:∀k,v.ownBlock=some k→n≤k):Below n w w':=(Yb n w).grown st.1 hn hb
theorem ax.appL{α:Type}{T:TypeId}{s:Nat}{c:α→Nat→Value}{w w':World}{base n:Nat}{v u u':Value}{l:List α}(h:ax T s c w base v l)(ae:∀k,v.ownBlock=some k→k < n)(af:∀k,u.ownBlock=some k→n≤k)(st:ay w u w' u'):ax T s c w' base v l:=
 h.app st (by
  cases hb:v.ownBlock with
  | none=>exact .inl rfl
  | some k=>exact .inr (fun e=>by have :=ae k hb;have :=af k e.symm;omega))
end Go.Proofs.YtfddbnmfllgifaaGreatDoor
namespace Go.Proofs.YtfddbnmfllgifaaGreatDoor
open Go.RowKit Cod Top
section
variable {α β:Type}{T T':TypeId}{s s':Nat}{c:α→Nat→Value}{c':β→Nat→Value}{w w':World}{b b':Nat}{v u u':Value}{l:List α}{l':List β}
theorem yA(ae:T≠T')(h:ax T s c w b v l)(h':ax T' s' c' w b' u l'):v.ownBlock=none∨v.ownBlock≠u.ownBlock:=by
 rcases h.2 with⟨rfl,_⟩ | ⟨g,cap,cur,rfl,_,hg,_⟩
 · exact .inl rfl
 · refine .inr fun e=>?_;rcases h'.2 with⟨rfl,_⟩ | ⟨g',cap',cur',rfl,_,hg',_⟩
   · simp[Value.ownBlock]at e
   · simp[Value.ownBlock]at e;subst e;rw[hg]at hg';injection hg' with e1;injection e1 with _ e2 _;exact ae e2
theorem ax.beside(h:ax T s c w b v l)(h':ax T' s' c' w b' u l')(ae:T≠T')(st:ay w u w' u'):ax T s c w' b v l:=h.app st (yA ae h h')
theorem bM{B n:Nat}{f:Nat→Value}(ae:T≠T')(h:ax T s c w b v l)(r:ag w B T' n f):∀k,v.ownBlock=some k→k≠B:=by
 intro k hk e;subst e;rcases h.2 with⟨rfl,_⟩ | ⟨g,cap,cur,rfl,_,hg,_⟩
 · simp[Value.ownBlock]at hk
 · simp[Value.ownBlock]at hk;subst hk;have h2:w.heap[g]? =some (.cells (ah n f) T' (0,0)):=r;rw[hg]at h2;injection h2 with e1;injection e1 with _ e2 _;exact ae e2
theorem ax.aB{B n:Nat}{f:Nat→Value}(h:ax T s c w b v l)(r:ag w B T' n f)(ae:T≠T')(o:aG B w w'):ax T s c w' b v l:=h.only o (bM ae h r)
theorem ax.at1(d:α)(hs:0 < s)(ae:s≤1000)(h:ax T s c w b v l)(hn:l.length≤1000000):aN s w v l.length (fun i=>c (l.getD i d)):=h.at' d hs ae hn
end
def me0:Me:=⟨0,0,0⟩
def meC(m:Me)(j:Nat):Value:=.int .i64 (match j with | 0=>m.d | 1=>m.s | _=>m.v)
def nd0:Int×Int:=(0,0)
def ndC(x:Int×Int)(j:Nat):Value:=.int .i64 (match j with | 0=>x.1 | _=>x.2)
structure GpV where
 m:Hd
 t:Hd
def gv0:GpV:=⟨hd0,hd0⟩
def gpC(g:Gp)(v:GpV)(j:Nat):Value:=
 if j=0 then .int .i64 g.f else if j=1 then .int .i64 g.e else if j < 34 then dgC g.last (j - 2)else if j=34 then v.m.v else v.t.v
theorem dI(g:Gp)(v:GpV)(j:Nat):(gpC g v j).oneCell'=true:=dh rfl (dh rfl (dh rfl (dh rfl rfl)))
abbrev eY(w:World)(h:Hd)(t:Tr):Prop:=ax 302 2 ndC w 0 h.v t
abbrev mD(w:World)(h:Hd)(l:List Me):Prop:=ax 53 3 meC w 0 h.v l
def dV(w:World)(g:Gp)(v:GpV):Prop:=mD w v.m g.mem∧eY w v.t g.tr
structure TrW(t:Tr):Prop where
 n:∀x∈t,1≤x.1∧x.1≤1023∧bQ x.2
 len:t.length≤1023
structure GpW(g:Gp):Prop where
 f:bQ g.f
 e:bQ g.e
 last:g.last.length=32
 mem:∀m∈g.mem,bQ m.d∧bQ m.s∧bQ m.v
 ml:g.mem.length≤2000
 tr:TrW g.tr
theorem TrW.nil:TrW []:=⟨fun x hx=>(by cases hx),by decide⟩
theorem eY.hd{w:World}{v:Value}{b:Nat}{t:Tr}(h:ax 302 2 ndC w b v t):∃hd:Hd,v=hd.v∧hd.n=t.length∧eY w hd t:=by
 obtain⟨a,k,rfl⟩:=h.slice;exact⟨⟨a,t.length,k⟩,rfl,rfl,h.mono (Nat.zero_le _)⟩
theorem mD.hd{w:World}{v:Value}{b:Nat}{l:List Me}(h:ax 53 3 meC w b v l):∃hd:Hd,v=hd.v∧hd.n=l.length∧mD w hd l:=by
 obtain⟨a,k,rfl⟩:=h.slice;exact⟨⟨a,l.length,k⟩,rfl,rfl,h.mono (Nat.zero_le _)⟩
theorem eY.below{w w':World}{h:Hd}{t:Tr}(g:eY w h t)(b:Below w.heap.size w w'):eY w' h t:=ax.below g b
theorem mD.below{w w':World}{h:Hd}{l:List Me}(g:mD w h l)(b:Below w.heap.size w w'):mD w' h l:=ax.below g b
theorem dV.below{w w':World}{g:Gp}{v:GpV}(h:dV w g v)(b:Below w.heap.size w w'):dV w' g v:=⟨h.1.below b,h.2.below b⟩
theorem eY.at2{w:World}{h:Hd}{t:Tr}(g:eY w h t)(hn:t.length≤1000000):aN 2 w h.v t.length (fun i=>ndC (t.getD i nd0)):=ax.at' nd0 (by decide) (by decide) g hn
theorem mD.at2{w:World}{h:Hd}{l:List Me}(g:mD w h l)(hn:l.length≤1000000):aN 3 w h.v l.length (fun i=>meC (l.getD i me0)):=ax.at' me0 (by decide) (by decide) g hn
theorem dV.beside{β:Type}{T':TypeId}{s':Nat}{c':β→Nat→Value}{w w':World}{b':Nat}{u u':Value}{l':List β}{g:Gp}{v:GpV}(h:dV w g v)(h':ax T' s' c' w b' u l')(h1:53≠T')(h2:302≠T')(st:ay w u w' u'):dV w' g v:=
 ⟨ax.beside h.1 h' h1 st,ax.beside h.2 h' h2 st⟩
theorem dV.aB{B n:Nat}{T':TypeId}{f:Nat→Value}{w w':World}{g:Gp}{v:GpV}(h:dV w g v)(r:ag w B T' n f)(h1:53≠T')(h2:302≠T')(o:aG B w w'):dV w' g v:=
 ⟨ax.aB h.1 r h1 o,ax.aB h.2 r h2 o⟩
theorem Rt:(Tryz.prog.info? 302).map (fun i=>(i.zero,i.size,i.bytes))=some (some (.agg #[.int .i64 0,.int .i64 0]),2,16):=by kernel_rfl
theorem Og:(Tryz.prog.info? 53).map (fun i=>(i.zero,i.size,i.bytes))=some (some (.agg #[.int .i64 0,.int .i64 0,.int .i64 0]),3,24):=by kernel_rfl
def iI(p:Nat→Bool)(n:Nat):Int:=match(List.range n).find? p with | some i=>(i:Int) | none=> -1
def jF(p:Nat→Bool)(n:Nat):Bool:=(List.range n).any p
theorem lL{p:Nat→Bool}{n k:Nat}(h:k < n)(hk:p k=true)(hf:∀i,i < k→p i=false):iI p n=(k:Int):=by
 unfold iI
 have :(List.range n).find? p=some k:=by
  rw[List.find?_eq_some_iff_append];refine⟨hk,List.range k,(List.range (n - k - 1)).map (· +(k+1)),?_,fun a ha=>by rw[hf a (List.mem_range.1 ha)];rfl⟩;apply List.ext_getElem?;intro i;rcases Nat.lt_trichotomy i k with hi | hi | hi
  · rw[Xd (by simpa using hi),Xh (by omega),Xh hi]
  · subst hi;rw[Xb (by simp),Xh h];simp
  · rw[Xb (by simp;omega),List.length_range];obtain⟨q,hq⟩:∃q,i - k=q+1:=⟨i - k - 1,by omega⟩;rw[hq,List.getElem?_cons_succ,Xg];by_cases ae:i < n
    · rw[Xh ae,Xh (by omega)];simp;omega
    · rw[List.getElem?_eq_none (by simp;omega),List.getElem?_eq_none (by simp;omega)];rfl
 rw[this]
theorem lU{p:Nat→Bool}{n:Nat}(hf:∀i,i < n→p i=false):iI p n= -1:=by
 unfold iI
 have :(List.range n).find? p=none:=by
  rw[List.find?_eq_none];intro x hx;rw[hf x (List.mem_range.1 hx)];simp
 rw[this]
theorem nG(p:Nat→Bool)(n:Nat):decide ((0:Int)≤iI p n)=jF p n:=by
 unfold iI jF
 cases h:(List.range n).find? p with
 | none=>
   rw[show(List.range n).any p=false from by rw[List.any_eq_false];exact List.find?_eq_none.1 h];rfl
 | some i=>
   rw[show(List.range n).any p=true from by rw[List.any_eq_true];exact⟨i,List.mem_of_find?_eq_some h,List.find?_some h⟩,decide_eq_true_iff];exact Ye i
theorem yJ{p:Nat→Bool}{n:Nat}:jF p n=true↔∃i,i < n∧p i=true:=by
 unfold jF;rw[List.any_eq_true];simp
theorem vT{p:Nat→Bool}{n:Nat}:jF p n=false↔∀i,i < n→p i=false:=by
 unfold jF;rw[List.any_eq_false];simp
def F6(s f:Nat):Prop:=∀{g:Nat} {lb:Array Value} (eg:∀args w,(callFunc g args).run Tryz.prog w=.ok (.enter g args) w) (p:Nat→Bool) (n:Nat) (c:Nat→Nat→Value) (v:Value) (w:World) (hv:aN s w v n c) (hn:n≤1000000)
 (hp:∀i W,i < n→Below w.heap.size w W→Calls Tryz.prog g (#[.agg (ah s (c i))]++lb) W (zr (.bool (p i)) W)),Calls Tryz.prog f #[v,.func (.func g) #[] lb] w (zr (.int .i64 (iI p n)) w)
theorem BN:F6 5 191∧F6 3 146∧F6 35 57∧F6 143 135∧F6 36 79∧F6 36 56:=by
 refine⟨?_,?_,?_,?_,?_,?_⟩<;>(
  intro g lb eg p n c v w hv hn hp;obtain⟨la,lc,rfl⟩:=hv.slice;have H0:=zh hv;have HP:=zh hp;have HX:=zh (fun k (h:k < n) hk hf=>lL (p:=p) h hk hf);have HY:=zh (fun hf=>lU (p:=p) (n:=n) hf);obtain⟨R,hR⟩:=zg (iI p n);rw[hR]at HX HY;rw[hR];have QN:=zh hn;clear hv hp hn hR;go_in;have B0:=zh (Yb w.heap.size w);go_wp2_with fail;go_loopg [5,8] n (fun g s5 s8 wx=>∃k:Nat,k+g=n∧s8=.int .i64 (k:Int)∧Hid (∀i,i < k→p i=false)∧Hid (Below w.heap.size w wx));case atStart=>exact⟨0,by omega,rfl,zh (fun i hi=>by omega),B0⟩
  case round=>
   clear B0;obtain⟨k,hk,rfl,hA,hB⟩:=hrel;have q0:=Ye k;by_cases ae:k < n
   · obtain⟨d0,d1,-⟩:=zl ae;obtain⟨b,off,rfl,af,hb,hc⟩:=aN.aI (n:=n) (a:=la) (k:=lc) (c:=c) (H0.below hB.o) ae;have ag:=zh ae;have ah:=zh (fun j hj=>hc k ae j hj);have CL:=zh (HP.o k wr ae hB.o);have ai:=zw  ((k:Int)+1) (by have :=QN.o;omega);clear hc af hb ae;go_upto_region 4 with fail;go_wp2_with(with_reducible refine zS 15 ?_);refine zh (zE b _ rfl (by first | exact YV | exact YZ | exact YT | exact YR | exact YO | exact Zj) off k (by rw[Ym]) (c k) ah.o ?_);go_wp2_with fail;refine CL.mono ?_;rintro e w2 ⟨rfl,b2⟩;have B2:=zD hB b2;clear hB b2 CL ah
     cases hq:p k with
     | true=>
       have E:R=(k:Int):=HX.o k ag.o hq hA.o;subst E;clear hA hq;go_wp2_with fail;go_ret;exact⟨rfl,B2.o⟩
     | false=>
       have A2:Hid (∀i,i < k+1→p i=false):=zh (fun i hi=>by
           by_cases e:i=k
           · subst e;exact hq
           · exact hA.o i (by omega))
       clear hA hq;go_wp2_with fail;go_roundg(n - (k+1));case measure=>have :=ag.o;omega
       case rel=>
           go_light;exact⟨k+1,by have :=ag.o;omega,by go_num,A2,B2⟩
   · obtain⟨d0,d1⟩:=zk ae;have E:R= -1:=HY.o (fun i hi=>hA.o i (by omega));subst E;clear ae hk q0 hA;go_wp2_with fail;go_ret
     exact⟨rfl,hB.o⟩)
theorem oO:F6 5 191:=BN.1
theorem oN:F6 3 146:=BN.2.1
theorem xm:F6 35 57:=BN.2.2.1
theorem ru:F6 143 135:=BN.2.2.2.1
theorem AU:F6 36 79:=BN.2.2.2.2.1
theorem qj:F6 36 56:=BN.2.2.2.2.2
theorem kK{g:Nat}{lb:Array Value}(eg:∀args w,(callFunc g args).run Tryz.prog w=.ok (.enter g args) w)(p:Nat→Bool)(n:Nat)(c:Nat→Nat→Value)(v:Value)(w:World)(hv:aN 5 w v n c)(hn:n≤1000000)
 (hp:∀i W,i < n→Below w.heap.size w W→Calls Tryz.prog g (#[.agg (ah 5 (c i))]++lb) W (zr (.bool (p i)) W)):
 Calls Tryz.prog 126 #[v,.func (.func g) #[] lb] w (zr (.bool (jF p n)) w):=by
 have C:=zh (oO eg p n c v w hv hn hp);have HD:=nG p n;obtain⟨R,hR⟩:=zg (jF p n);obtain⟨I,hI⟩:=zg (iI p n);rw[hR,hI]at HD;rw[hI]at C;rw[hR];clear hp hv hR hI;go_in;go_wp2_with fail;refine C.mono ?_;rintro e w1 ⟨rfl,b1⟩;have B1:=zh b1;clear b1 C;go_wp2_with fail;go_ret;exact⟨rfl,B1.o⟩
theorem xN{g:Nat}{lb:Array Value}(eg:∀args w,(callFunc g args).run Tryz.prog w=.ok (.enter g args) w)(p:Nat→Bool)(n:Nat)(c:Nat→Nat→Value)(v:Value)(w:World)(hv:aN 3 w v n c)(hn:n≤1000000)
 (hp:∀i W,i < n→Below w.heap.size w W→Calls Tryz.prog g (#[.agg (ah 3 (c i))]++lb) W (zr (.bool (p i)) W)):
 Calls Tryz.prog 176 #[v,.func (.func g) #[] lb] w (zr (.bool (jF p n)) w):=by
 have C:=zh (oN eg p n c v w hv hn hp);have HD:=nG p n;obtain⟨R,hR⟩:=zg (jF p n);obtain⟨I,hI⟩:=zg (iI p n);rw[hR,hI]at HD;rw[hI]at C;rw[hR];clear hp hv hR hI;go_in;go_wp2_with fail;refine C.mono ?_;rintro e w1 ⟨rfl,b1⟩;have B1:=zh b1;clear b1 C;go_wp2_with fail;go_ret;exact⟨rfl,B1.o⟩
theorem IK{g:Nat}{lb:Array Value}(eg:∀args w,(callFunc g args).run Tryz.prog w=.ok (.enter g args) w)(p:Nat→Bool)(n:Nat)(c:Nat→Nat→Value)(v:Value)(w:World)(hv:aN 1 w v n c)(hn:n≤1000000)(h1:∀i,∃z,c i 0=.int .i64 z)
 (hp:∀i W,i < n→Below w.heap.size w W→Calls Tryz.prog g (#[c i 0]++lb) W (zr (.bool (p i)) W)):
 Calls Tryz.prog 217 #[v,.func (.func g) #[] lb] w (zr (.int .i64 (iI p n)) w):=by
 obtain⟨la,lc,rfl⟩:=hv.slice;have H0:=zh hv;have HP:=zh hp;have HX:=zh (fun k (h:k < n) hk hf=>lL (p:=p) h hk hf);have HY:=zh (fun hf=>lU (p:=p) (n:=n) hf);obtain⟨R,hR⟩:=zg (iI p n);rw[hR]at HX HY;rw[hR];have QN:=zh hn;clear hv hp hn hR;go_in;have B0:=zh (Yb w.heap.size w);go_wp2_with fail;go_loopg [5,8] n (fun g s5 s8 wx=>∃k:Nat,k+g=n∧s8=.int .i64 (k:Int)∧Hid (∀i,i < k→p i=false)∧Hid (Below w.heap.size w wx));case atStart=>exact⟨0,by omega,rfl,zh (fun i hi=>by omega),B0⟩
 case round=>
  clear B0;obtain⟨k,hk,rfl,hA,hB⟩:=hrel;have q0:=Ye k;by_cases ae:k < n
  · obtain⟨d0,d1,-⟩:=zl ae;obtain⟨b,off,rfl,af,hb,hc⟩:=aN.aI (s:=1) (n:=n) (a:=la) (k:=lc) (c:=c) (H0.below hB.o) ae;have ag:=zh ae;have ah:=zh (fun j hj=>hc k ae j hj);obtain⟨z,hz⟩:=h1 k;have CL:=zh (HP.o k wr ae hB.o);have ai:=zw  ((k:Int)+1) (by have :=QN.o;omega);rw[hz]at CL;clear hc af hb ae;have lk:wr.cell? ⟨b,off+k,none⟩=some (.int .i64 z):=(by have h:=ah.o 0 (by decide);rw[Nat.one_mul]at h;rw[←hz];exact h);go_upto_region 4 with fail;go_wp2_with fail;refine CL.mono ?_;rintro e w2 ⟨rfl,b2⟩;have B2:=zD hB b2;clear hB b2 CL ah lk hz
    cases hq:p k with
    | true=>
      have E:R=(k:Int):=HX.o k ag.o hq hA.o;subst E;clear hA hq;go_wp2_with fail;go_ret;exact⟨rfl,B2.o⟩
    | false=>
      have A2:Hid (∀i,i < k+1→p i=false):=zh (fun i hi=>by
       by_cases e:i=k
       · subst e;exact hq
       · exact hA.o i (by omega))
      clear hA hq;go_wp2_with fail;go_roundg(n - (k+1));case measure=>have :=ag.o;omega
      case rel=>
       go_light;exact⟨k+1,by have :=ag.o;omega,by go_num,A2,B2⟩
  · obtain⟨d0,d1⟩:=zk ae;have E:R= -1:=HY.o (fun i hi=>hA.o i (by omega));subst E;clear ae hk q0 hA;go_wp2_with fail;go_ret;exact⟨rfl,hB.o⟩
theorem Il{g:Nat}{lb:Array Value}(eg:∀args w,(callFunc g args).run Tryz.prog w=.ok (.enter g args) w)(p:Nat→Bool)(n:Nat)(c:Nat→Nat→Value)(v:Value)(w:World)(hv:aN 1 w v n c)(hn:n≤1000000)(h1:∀i,∃z,c i 0=.int .i64 z)
 (hp:∀i W,i < n→Below w.heap.size w W→Calls Tryz.prog g (#[c i 0]++lb) W (zr (.bool (p i)) W)):
 Calls Tryz.prog 188 #[v,.func (.func g) #[] lb] w (zr (.bool (jF p n)) w):=by
 have C:=zh (IK eg p n c v w hv hn h1 hp);have HD:=nG p n;obtain⟨R,hR⟩:=zg (jF p n);obtain⟨I,hI⟩:=zg (iI p n);rw[hR,hI]at HD;rw[hI]at C;rw[hR];clear hp hv hR hI;go_in;go_wp2_with fail;refine C.mono ?_;rintro e w1 ⟨rfl,b1⟩;have B1:=zh b1;clear b1 C;go_wp2_with fail;go_ret;exact⟨rfl,B1.o⟩
theorem xO{g:Nat}{lb:Array Value}(eg:∀args w,(callFunc g args).run Tryz.prog w=.ok (.enter g args) w)(p:Nat→Bool)(n:Nat)(c:Nat→Nat→Value)(v:Value)(w:World)(hv:aN 35 w v n c)(hn:n≤1000000)
 (hp:∀i W,i < n→Below w.heap.size w W→Calls Tryz.prog g (#[.agg (ah 35 (c i))]++lb) W (zr (.bool (p i)) W)):
 Calls Tryz.prog 26 #[v,.func (.func g) #[] lb] w (zr (.bool (jF p n)) w):=by
 have C:=zh (xm eg p n c v w hv hn hp);have HD:=nG p n;obtain⟨R,hR⟩:=zg (jF p n);obtain⟨I,hI⟩:=zg (iI p n);rw[hR,hI]at HD;rw[hI]at C;rw[hR];clear hp hv hR hI;go_in;go_wp2_with fail;refine C.mono ?_;rintro e w1 ⟨rfl,b1⟩;have B1:=zh b1;clear b1 C;go_wp2_with fail;go_ret;exact⟨rfl,B1.o⟩
theorem rO{g:Nat}{lb:Array Value}(eg:∀args w,(callFunc g args).run Tryz.prog w=.ok (.enter g args) w)(p:Nat→Bool)(n:Nat)(c:Nat→Nat→Value)(v:Value)(w:World)(hv:aN 143 w v n c)(hn:n≤1000000)
 (hp:∀i W,i < n→Below w.heap.size w W→Calls Tryz.prog g (#[.agg (ah 143 (c i))]++lb) W (zr (.bool (p i)) W)):
 Calls Tryz.prog 74 #[v,.func (.func g) #[] lb] w (zr (.bool (jF p n)) w):=by
 have C:=zh (ru eg p n c v w hv hn hp);have HD:=nG p n;obtain⟨R,hR⟩:=zg (jF p n);obtain⟨I,hI⟩:=zg (iI p n);rw[hR,hI]at HD;rw[hI]at C;rw[hR];clear hp hv hR hI;go_in;go_wp2_with fail;refine C.mono ?_;rintro e w1 ⟨rfl,b1⟩;have B1:=zh b1;clear b1 C;go_wp2_with fail;go_ret;exact⟨rfl,B1.o⟩
structure dK(W W':World):Prop where
 size:W.heap.size≤W'.heap.size
 same:∀(k:Nat) (o:Obj),W.heap[k]? =some o→o.isCells=true→W'.heap[k]? =some o
theorem dK.of_below{W W':World}(b:Below W.heap.size W W'):dK W W':=⟨b.size,fun k o h _=>(b.block k (Yi.1 h).1).trans h⟩
theorem dK.row{W W':World}(h:dK W W'){B n:Nat}{T:TypeId}{f:Nat→Value}(r:ag W B T n f):ag W' B T n f:=h.same B _ r rfl
def dm{α:Type}:List Bool→List α→List α
 | b::bs,x::l=>if b then dm bs l else x::dm bs l
 | _,_=>[]
theorem fF{α:Type}:∀(bs:List Bool) (l:List α) (r:Bool) (x:α),bs.length=l.length→dm (bs++[r]) (l++[x])=dm bs l++if r then []else [x]
 | [],[],r,x,_=>by cases r<;>rfl
 | b::bs,y::l,r,x,h=>by
   show dm (b::(bs++[r])) (y::(l++[x]))=_;unfold dm;rw[fF bs l r x (by simpa using h)];cases b<;>simp
 | [],_::_,_,_,h=>by cases h
 | _::_,[],_,_,h=>by cases h
theorem iH{α:Type}:∀(l:List α),dm (List.replicate l.length false) l=l
 | []=>rfl
 | x::l=>by
   show dm (false::List.replicate l.length false) (x::l)=_;unfold dm;rw[iH l];rfl
theorem lh{α:Type}(p:α→Bool):∀(l:List α),dm (l.map p) l=l.filter fun x=> !p x
 | []=>rfl
 | x::l=>by
   show dm (p x::l.map p) (x::l)=_;unfold dm;rw[lh p l];cases h:p x<;>simp[h]
section
variable {α:Type}{T:TypeId}{s:Nat}{c:α→Nat→Value}
theorem ax.OV{w:World}{base:Nat}{v:Value}{l:List α}(d:α)(h:ax T s c w base v l)(h0:v≠ .slice none 0 0):∃g cap f,v=.slice (some ⟨g,0,none⟩) l.length cap∧l.length≤cap∧base≤g∧cap≤9223372036854775807∧ag w g T (cap*s) f∧∀i,i < l.length→∀j,j < s→f (s*i+j)=c (l.getD i d) j:=by
 obtain⟨_,h2⟩:=h;rcases h2 with⟨e,_⟩ | ⟨g,cap,cur,h1,h3,h4,h5,h6,h7,h8⟩
 · exact absurd e h0
 · refine⟨g,cap,fun i=>cur.getD i undef,h1,h5,h3,by unfold maxLen at h6;omega,?_,?_⟩
   · show w.heap[g]? =some (.cells (ah (cap*s) fun i=>cur.getD i undef) T (0,0));rw[h4];congr 2;apply Array.ext
     · rw[bz,h7]
     · intro i h1 h2;simp[ah,h1]
   · intro i hi j hj;have e:=dE (s:=s) (c:=c) d l i j hi hj
     have ae:s*i+j < l.length*s:=by
      have h9:s*(i+1)≤s*l.length:=Nat.mul_le_mul_left s hi;rw[Nat.mul_add,Nat.mul_one]at h9;rw[Ym l.length s];omega
     rw[←h8,Yy ae]at e;show cur.getD (s*i+j) undef=_;rw[Array.getD_eq_getD_getElem?,←Array.getElem?_toList,e];rfl
theorem ax.ofRow{w:World}{base g cap n:Nat}{f:Nat→Value}{l:List α}(d:α)(hs:0 < s)(hb:base≤g)(hr:ag w g T (cap*s) f)(hn:n=l.length)(hc:l.length≤cap)(hm:cap≤9223372036854775807)(hf:∀i,i < l.length→∀j,j < s→f (s*i+j)=c (l.getD i d) j):ax T s c w base (.slice (some ⟨g,0,none⟩) n cap) l:=by
 subst hn;refine⟨bI l,.inr ⟨g,cap,ah (cap*s) f,rfl,hb,hr,hc,by unfold maxLen;omega,bz _ _,?_⟩⟩;apply List.ext_getElem?;intro t;have hle:l.length*s≤cap*s:=Nat.mul_le_mul_right s hc;by_cases ht:t < l.length*s
 · have hi:t / s < l.length:=(Nat.div_lt_iff_lt_mul hs).2 ht;have hg:=dE (s:=s) (c:=c) d l (t / s) (t % s) hi (Nat.mod_lt _ hs);have h2:=hf (t / s) hi (t % s) (Nat.mod_lt _ hs);rw[Nat.div_add_mod]at hg h2;rw[Yy ht,hg,←h2,Array.getElem?_toList,fO (by omega)]
 · rw[List.getElem?_eq_none (by rw[Yu];omega),List.getElem?_eq_none (by rw[bI];omega)]
theorem xK(zero:Array Value)(n:Nat):(Builtin.zeroCells zero n).toList.length=n*zero.size:=by simp[Builtin.zeroCells]
theorem Jr{P:Program}(w:World)(t e ty:TypeId)(z:Value)(ht:P.underlying t=some (.slice e))(hv:∀w,(zeroValue e).run P w=.ok z w)(h1:∀u∈z.cells.toList,u.oneCell'=true)(b o n k cap N:Nat)(f:Nat→Value)(hn:0 < n)(hr:ag w b T N f)(ho:o+n*z.cells.size≤N):
 ∃w',(Builtin.clear_ #[t] ty #[.slice (some ⟨b,o,none⟩) n cap]).run P w=.ok (.tuple #[]) w'∧aG b w w'∧∃f',ag w' b T N f'∧∀i,i < o→f' i=f i:=by
 have hz:∀u∈(Builtin.zeroCells z.cells n).toList,u.oneCell'=true:=by
  intro u hu;simp only[Builtin.zeroCells,Array.toList_map,Array.toList_range,Yo]at hu;obtain⟨i,hi,rfl⟩:=hu
  have ae:0 < z.cells.size:=by
   rcases Nat.eq_zero_or_pos z.cells.size with h0 | h0
   · rw[h0,Nat.mul_zero]at hi;simp at hi
   · exact h0
  have hm:=Nat.mod_lt i ae;rw[getElem!_pos z.cells _ hm];exact h1 _ (by simp)
 have af:=run_storeCells_cells (P:=P) b o (Builtin.zeroCells z.cells n).toList 0 w (fun j hj=>by
  rw[xK]at hj
  rw[hr.cell (i:=o+0+j) (by omega)];rfl) (fun j hj=>hr.frozen _) hz
 refine⟨_,?_,jm (g:=b) (Builtin.zeroCells z.cells n).toList o w,_,jl _ _ _ _ hr,fun i hi=>?_⟩
 · obtain⟨m,rfl⟩:∃m,n=m+1:=⟨n - 1,by omega⟩;simp only[Nat.add_zero]at af;simp[Builtin.clear_,run_underlying ht,hv,af]
 · rw[if_neg (by omega)]
theorem iZ{P:Program}{w:World}{ops:Array Oper}{rest:List Oper}{o:Oper}{a:Act}{Q:Exit→Act→World→Prop}(af:o.guard=none)(x:Operand)(t e:TypeId)(ho:o.op=.call {callee:=.builtin .clear,args:= #[x],argTypes:= #[t]})(b off n cap N:Nat)(f:Nat→Value)
 (hx:a.eval x=.slice (some ⟨b,off,none⟩) n cap) (ht:P.underlying t=some (.slice e)) (z:Value) (hv:∀w,(zeroValue e).run P w=.ok z w) (h1:∀u∈z.cells.toList,u.oneCell'=true) (hn:0 < n) (hr:ag w b T N f) (ah:off+n*z.cells.size≤N)
 (h:∀w' f',Hid (ag w' b T N f')→Hid (aG b w w')→Hid (∀i,i < off→f' i=f i)→wpList P ops Q rest (a.put o.dst (.tuple #[])) w'):wpList P ops Q (o::rest) a w:=by
 obtain⟨w',ae,h2,f',h3,h4⟩:=Jr (P:=P) w t e o.type z ht hv h1 b off n 0 cap N f hn hr ah;refine wpList_plain af fun K hK=>?_;unfold Oper.wp execOp;simp only[ho,resolve,invoke,builtin,Sem.run_bind,Sem.run_pure,Result.andThen_ok,List.map_toArray,Yw,List.map_nil,hx,ae];exact hK _ _ (h w' f' h3 h2 h4)
end
def dvZ(j:Nat):Value:=if j=0 then .slice none 0 0 else if j=1 then .int .i64 0 else if j=2 then .int .i64 0 else if j < 35 then .int .u8 0 else .int .i64 0
theorem dvZ_at(j:Nat):(dvZ j).oneCell'=true:=by
 unfold dvZ;split
 · rfl
 · split
   · rfl
   · split
     · rfl
     · split<;>rfl
theorem YC(u:Value)(h:u∈(Value.agg (ah 36 dvZ)).cells.toList):u.oneCell'=true:=by
 have h2:u∈(List.range 36).map dvZ:=h;obtain⟨j,_,rfl⟩:=Yo.1 h2;exact dvZ_at j
theorem wC{α:Type}{c:α→Nat→Value}(d:α){g:Nat}{lb:Array Value}(eg:∀args w,(callFunc g args).run Tryz.prog w=.ok (.enter g args) w)(J:List Bool→World→Prop)(l:List α)(b cap:Nat)(f:Nat→Value)(w:World)(hr:ag w b 53 (cap*3) f)(hc:l.length≤cap)(hf:∀i,i < l.length→∀j,j < 3→f (3*i+j)=c (l.getD i d) j)(hn:l.length≤1000000)(h0:J [] w)
 (hp:∀bs W,J bs W→bs.length < l.length→Calls Tryz.prog g (#[.agg (ah 3 (c (l.getD bs.length d)))]++lb) W fun e W'=>∃r,e=.returned (.bool r)∧J (bs++[r]) W'∧dK W W'):
 Calls Tryz.prog 146 #[.slice (some ⟨b,0,none⟩) l.length cap,.func (.func g) #[] lb] w fun e w'=>
  (∃k:Nat,k < l.length∧e=.returned (.int .i64 (k:Int))∧J (List.replicate k false++[true]) w'∧ag w' b 53 (cap*3) f)∨(e=.returned (.int .i64 (-1))∧J (List.replicate l.length false) w'∧ag w' b 53 (cap*3) f):=by
 have H0:=zh hr;have HF:=zh hf;have HP:=zh hp;have HC:=zh hc;have QN:=zh hn;have J0:Hid (J [] w):=zh h0;obtain⟨n,ai⟩:=zg l.length;rw[ai]at HF HP QN HC ⊢;clear hr hf hp hn h0 hc ai;go_in;go_wp2_with fail;go_loopg [5,8] n (fun g s5 s8 wx=>∃k:Nat,k+g=n∧s8=.int .i64 (k:Int)∧Hid (J (List.replicate k false) wx)∧Hid (ag wx b 53 (cap*3) f));case atStart=>exact⟨0,by omega,rfl,J0,H0⟩
 case round=>
  clear J0 H0;obtain⟨k,hk,rfl,hJ,hR⟩:=hrel;obtain⟨w1,rfl⟩:=zG wr;have q0:=Ye k;by_cases ae:k < n
  · obtain⟨d0,d1,-⟩:=zl ae;have af:=zh ae
    have aj:Hid (∀j,j < 3→w1.cell? ⟨b,0+3*k+j,none⟩=some (c (l.getD k d) j)):=zh (fun j hj=>by
     have h2:=HC.o;have h3:=af.o;rw[←HF.o k h3 j hj,Yl]
     exact hR.cell (by omega))
    have CL:=zh (HP.o _ w1 hJ.o (by rw[List.length_replicate];exact ae));rw[List.length_replicate]at CL;have ak:=zw  ((k:Int)+1) (by have :=QN.o;omega);clear ae;go_upto_region 4 with fail;go_wp2_with(with_reducible refine zS 15 ?_);refine zh (zE b (k*3) rfl YZ 0 k (by rw[Ym,Yl]) (c (l.getD k d)) aj.o ?_);go_wp2_with fail;refine CL.mono ?_;rintro e w2 ⟨r,rfl,j2,e2⟩;have R2:=zh (e2.row hR.o);have J2:=zh j2;clear hR e2 CL aj hJ j2
    cases r with
    | true=>
      go_wp2_with fail;go_ret;exact .inl ⟨k,af.o,rfl,J2.o,R2.o⟩
    | false=>
      rw[show List.replicate k false++[false]=List.replicate (k+1) false from(List.replicate_succ' ..).symm]at J2;go_wp2_with fail;go_roundg(n - (k+1));case measure=>have :=af.o;omega
      case rel=>
       go_light;exact⟨k+1,by have :=af.o;omega,by go_num,J2,R2⟩
  · obtain⟨d0,d1⟩:=zk ae;obtain rfl:k=n:=(by omega);clear ae hk q0;go_wp2_with fail;go_ret;exact .inr ⟨rfl,hJ.o,hR.o⟩
theorem vP{α:Type}{c:α→Nat→Value}(d:α){g:Nat}{lb:Array Value}(eg:∀args w,(callFunc g args).run Tryz.prog w=.ok (.enter g args) w)(J:List Bool→World→Prop)(l:List α)(b cap:Nat)(f:Nat→Value)(w:World)(hr:ag w b 75 (cap*5) f)(hc:l.length≤cap)(hf:∀i,i < l.length→∀j,j < 5→f (5*i+j)=c (l.getD i d) j)(hn:l.length≤1000000)(h0:J [] w)
 (hp:∀bs W,J bs W→bs.length < l.length→Calls Tryz.prog g (#[.agg (ah 5 (c (l.getD bs.length d)))]++lb) W fun e W'=>∃r,e=.returned (.bool r)∧J (bs++[r]) W'∧dK W W'):
 Calls Tryz.prog 191 #[.slice (some ⟨b,0,none⟩) l.length cap,.func (.func g) #[] lb] w fun e w'=>
  (∃k:Nat,k < l.length∧e=.returned (.int .i64 (k:Int))∧J (List.replicate k false++[true]) w'∧ag w' b 75 (cap*5) f)∨(e=.returned (.int .i64 (-1))∧J (List.replicate l.length false) w'∧ag w' b 75 (cap*5) f):=by
 have H0:=zh hr;have HF:=zh hf;have HP:=zh hp;have HC:=zh hc;have QN:=zh hn;have J0:Hid (J [] w):=zh h0;obtain⟨n,ai⟩:=zg l.length;rw[ai]at HF HP QN HC ⊢;clear hr hf hp hn h0 hc ai;go_in;go_wp2_with fail;go_loopg [5,8] n (fun g s5 s8 wx=>∃k:Nat,k+g=n∧s8=.int .i64 (k:Int)∧Hid (J (List.replicate k false) wx)∧Hid (ag wx b 75 (cap*5) f));case atStart=>exact⟨0,by omega,rfl,J0,H0⟩
 case round=>
  clear J0 H0;obtain⟨k,hk,rfl,hJ,hR⟩:=hrel;obtain⟨w1,rfl⟩:=zG wr;have q0:=Ye k;by_cases ae:k < n
  · obtain⟨d0,d1,-⟩:=zl ae;have af:=zh ae
    have aj:Hid (∀j,j < 5→w1.cell? ⟨b,0+5*k+j,none⟩=some (c (l.getD k d) j)):=zh (fun j hj=>by
     have h2:=HC.o;have h3:=af.o;rw[←HF.o k h3 j hj,Yl]
     exact hR.cell (by omega))
    have CL:=zh (HP.o _ w1 hJ.o (by rw[List.length_replicate];exact ae));rw[List.length_replicate]at CL;have ak:=zw  ((k:Int)+1) (by have :=QN.o;omega);clear ae;go_upto_region 4 with fail;go_wp2_with(with_reducible refine zS 15 ?_);refine zh (zE b (k*5) rfl YV 0 k (by rw[Ym,Yl]) (c (l.getD k d)) aj.o ?_);go_wp2_with fail;refine CL.mono ?_;rintro e w2 ⟨r,rfl,j2,e2⟩;have R2:=zh (e2.row hR.o);have J2:=zh j2;clear hR e2 CL aj hJ j2
    cases r with
    | true=>
      go_wp2_with fail;go_ret;exact .inl ⟨k,af.o,rfl,J2.o,R2.o⟩
    | false=>
      rw[show List.replicate k false++[false]=List.replicate (k+1) false from(List.replicate_succ' ..).symm]at J2;go_wp2_with fail;go_roundg(n - (k+1));case measure=>have :=af.o;omega
      case rel=>
       go_light;exact⟨k+1,by have :=af.o;omega,by go_num,J2,R2⟩
  · obtain⟨d0,d1⟩:=zk ae;obtain rfl:k=n:=(by omega);clear ae hk q0;go_wp2_with fail;go_ret;exact .inr ⟨rfl,hJ.o,hR.o⟩
theorem oP{α:Type}{c:α→Nat→Value}(d:α){g:Nat}{lb:Array Value}(eg:∀args w,(callFunc g args).run Tryz.prog w=.ok (.enter g args) w)(J:List Bool→World→Prop)(l:List α)(b cap:Nat)(f:Nat→Value)(w:World)(hr:ag w b 96 (cap*36) f)(hc:l.length≤cap)(hf:∀i,i < l.length→∀j,j < 36→f (36*i+j)=c (l.getD i d) j)(hn:l.length≤1000000)(h0:J [] w)
 (hp:∀bs W,J bs W→bs.length < l.length→Calls Tryz.prog g (#[.agg (ah 36 (c (l.getD bs.length d)))]++lb) W fun e W'=>∃r,e=.returned (.bool r)∧J (bs++[r]) W'∧dK W W'):
 Calls Tryz.prog 56 #[.slice (some ⟨b,0,none⟩) l.length cap,.func (.func g) #[] lb] w fun e w'=>
  (∃k:Nat,k < l.length∧e=.returned (.int .i64 (k:Int))∧J (List.replicate k false++[true]) w'∧ag w' b 96 (cap*36) f)∨(e=.returned (.int .i64 (-1))∧J (List.replicate l.length false) w'∧ag w' b 96 (cap*36) f):=by
 have H0:=zh hr;have HF:=zh hf;have HP:=zh hp;have HC:=zh hc;have QN:=zh hn;have J0:Hid (J [] w):=zh h0;obtain⟨n,ai⟩:=zg l.length;rw[ai]at HF HP QN HC ⊢;clear hr hf hp hn h0 hc ai;go_in;go_wp2_with fail;go_loopg [5,8] n (fun g s5 s8 wx=>∃k:Nat,k+g=n∧s8=.int .i64 (k:Int)∧Hid (J (List.replicate k false) wx)∧Hid (ag wx b 96 (cap*36) f));case atStart=>exact⟨0,by omega,rfl,J0,H0⟩
 case round=>
  clear J0 H0;obtain⟨k,hk,rfl,hJ,hR⟩:=hrel;obtain⟨w1,rfl⟩:=zG wr;have q0:=Ye k;by_cases ae:k < n
  · obtain⟨d0,d1,-⟩:=zl ae;have af:=zh ae
    have aj:Hid (∀j,j < 36→w1.cell? ⟨b,0+36*k+j,none⟩=some (c (l.getD k d) j)):=zh (fun j hj=>by
     have h2:=HC.o;have h3:=af.o;rw[←HF.o k h3 j hj,Yl]
     exact hR.cell (by omega))
    have CL:=zh (HP.o _ w1 hJ.o (by rw[List.length_replicate];exact ae));rw[List.length_replicate]at CL;have ak:=zw  ((k:Int)+1) (by have :=QN.o;omega);clear ae;go_upto_region 4 with fail;go_wp2_with(with_reducible refine zS 15 ?_);refine zh (zE b (k*36) rfl Zj 0 k (by rw[Ym,Yl]) (c (l.getD k d)) aj.o ?_);go_wp2_with fail;refine CL.mono ?_;rintro e w2 ⟨r,rfl,j2,e2⟩;have R2:=zh (e2.row hR.o);have J2:=zh j2;clear hR e2 CL aj hJ j2
    cases r with
    | true=>
      go_wp2_with fail;go_ret;exact .inl ⟨k,af.o,rfl,J2.o,R2.o⟩
    | false=>
      rw[show List.replicate k false++[false]=List.replicate (k+1) false from(List.replicate_succ' ..).symm]at J2;go_wp2_with fail;go_roundg(n - (k+1));case measure=>have :=af.o;omega
      case rel=>
       go_light;exact⟨k+1,by have :=af.o;omega,by go_num,J2,R2⟩
  · obtain⟨d0,d1⟩:=zk ae;obtain rfl:k=n:=(by omega);clear ae hk q0;go_wp2_with fail;go_ret;exact .inr ⟨rfl,hJ.o,hR.o⟩
theorem wX{α:Type}{c:α→Nat→Value}(d:α)(h1:∀u j,(c u j).oneCell'=true){g:Nat}{lb:Array Value}(eg:∀args w,(callFunc g args).run Tryz.prog w=.ok (.enter g args) w)(J:List Bool→World→Prop)(l:List α)(b cap base:Nat)(f:Nat→Value)(w:World)(az:base≤b)(hm:cap≤9223372036854775807)(hr:ag w b 53 (cap*3) f)(hc:l.length≤cap)(hf:∀i,i < l.length→∀j,j < 3→f (3*i+j)=c (l.getD i d) j)(hn:l.length≤1000000)(h0:J [] w)
 (ai:∀bs W W',J bs W→Below W.heap.size W W'→J bs W') (aj:∀bs W W',J bs W→aG b W W'→J bs W')
 (hp:∀bs W,J bs W→bs.length < l.length→Calls Tryz.prog g (#[.agg (ah 3 (c (l.getD bs.length d)))]++lb) W fun e W'=>∃r,e=.returned (.bool r)∧J (bs++[r]) W'∧dK W W'):
 Calls Tryz.prog 128 #[.slice (some ⟨b,0,none⟩) l.length cap,.func (.func g) #[] lb] w fun e w'=>
  ∃bs:List Bool,e=.returned (.slice (some ⟨b,0,none⟩) (dm bs l).length cap)∧bs.length=l.length∧ax 53 3 c w' base (.slice (some ⟨b,0,none⟩) (dm bs l).length cap) (dm bs l)∧J bs w':=by
 have C:=zh (wC d eg J l b cap f w hr hc hf hn h0 hp);have HF:=zh hf;have HP:=zh hp;have HC:=zh hc;have QN:=zh hn;have aA:=zh az;have HM:=zh hm;have aC:=zh ai;have aB:=zh aj;have H1:=zh h1;obtain⟨n,au⟩:=zg l.length;have LN:=zh au;rw[au]at HF HP QN HC C ⊢;clear hr hf hp hn h0 hc au az hm ai aj h1;go_in;go_wp2_with fail;refine C.mono ?_;clear C;rintro e w1 (⟨k,hk,rfl,hj,hr⟩ | ⟨rfl,hj,hr⟩)
 · have J1:=zh hj;have R1:=zh hr;have HK:=zh hk;have e0:decide ((k:Int)= -1)=false:=zT (by omega);have e1:((k:Int)== -1)=false:=(by rw[beq_eq_false_iff_ne];omega);have aF:IntKind.i64.wrap ((k:Int)+1)=(((k+1:Nat):Int)):=(IntWalk.i64_in _ (by have :=QN.o;omega)).trans (by omega);clear hj hr hk;go_wp2_with fail;clear aF e0 e1
   go_loopg [5,6] (n - (k+1)) (fun g s5 s6 wx=>∃(j i:Nat) (bs:List Bool) (f:Nat→Value),j+g=n∧s5=.int .i64 (i:Int)∧s6=.int .i64 (j:Int)∧Hid (bs.length=j∧i < j∧(dm bs (l.take j)).length=i)∧Hid (J bs wx)∧Hid (ag wx b 53 (cap*3) f)∧
    Hid (∀q,q < i→∀z,z < 3→f (3*q+z)=c ((dm bs (l.take j)).getD q d) z)∧Hid (∀q,j≤q→q < n→∀z,z < 3→f (3*q+z)=c (l.getD q d) z))
   case atStart=>
    have hk:=HK.o
    have e1:dm (List.replicate k false++[true]) (l.take (k+1))=l.take k:=by
     rw[aH d l (by rw[LN.o];exact hk),fF _ _ _ _ (by rw[List.length_replicate,Yu,LN.o];omega)];have e2:=iH (l.take k);rw[show(l.take k).length=k from by rw[Yu,LN.o];omega]at e2;rw[e2];simp
    refine⟨k+1,k,_,f,by omega,rfl,by go_num,zh ⟨by simp,Nat.lt_succ_self _,by rw[e1,Yu,LN.o];omega⟩,J1,R1,zh (fun q hq z hz=>?_),zh (fun q hq ak z hz=>HF.o q ak z hz)⟩;rw[e1,HF.o q (by omega) z hz];congr 1;rw[Yd,Yd,Yy hq]
   case round=>
    clear J1 R1 HK;obtain⟨j,i,bs,f,hg,rfl,rfl,hL,hJ,hR,hH,hT⟩:=hrel;obtain⟨w1,rfl⟩:=zG wr;have q0:=Ye j;have q1:=Ye i;by_cases af:j < n
    · obtain⟨d0,d1,-⟩:=zl af;have ae:=zh af
      have ay:Hid (∀z,z < 3→w1.cell? ⟨b,0+3*j+z,none⟩=some (c (l.getD j d) z)):=zh (fun z hz=>by
       have h2:=HC.o;have h3:=ae.o;rw[←hT.o j (Ya _) h3 z hz,Yl]
       exact hR.cell (by omega))
      have TK:=zh (aH d l (show j < l.length by rw[LN.o];exact af));have CL:=zh (fun W h=>HP.o bs W h (by rw[hL.1];exact af));rw[hL.1]at CL;have aJ:IntKind.i64.wrap ((j:Int)+1)=(((j+1:Nat):Int)):=(IntWalk.i64_in _ (by have :=QN.o;omega)).trans (by omega);obtain⟨x,hx⟩:=zg (l.getD j d);rw[hx]at ay TK CL;clear af hx;go_upto_region 7 with fail;go_wp2_with(with_reducible refine zS 25 ?_);refine zh (zE b (j*3) rfl YZ 0 j (by rw[Ym,Yl]) (c x) ay.o ?_);have B1:=zh (Yb w1.heap.size w1);clear ay;have Zr:=zh (ag.new w1 53 3 (meC me0));go_upto_region 8 with((with_reducible refine zN ?_);refine zV Zr rfl (c x) rfl YZ (fun j _=>H1.o x j) ?_;intro w2 X2 o2);have b2:Below w1.heap.size w1 w2:=zO o2;have B2:=zD B1 b2;clear b2 o2 Zr B1;have J2:=zh (aC.o _ _ _ hJ.o B2.o);have R2:=zh (hR.below B2.o);clear hJ hR B2;go_wp2_with(with_reducible refine zS 27 ?_);refine zh (zL X2 rfl YZ ?_);go_wp2_with fail
      refine(CL.o _ J2.o).mono ?_;clear CL J2;rintro e w3 ⟨r,rfl,j3,k3⟩;have J3:=zh j3;have R3:=zh (k3.row R2.o);have X3:=zh (k3.row X2.o);clear j3 k3 R2 X2
      cases r with
      | true=>
        have e1:Hid (dm (bs++[true]) (l.take (j+1))=dm bs (l.take j)):=zh (by
         rw[TK.o,fF _ _ _ _ (by rw[hL.1,Yu,LN.o];have :=ae.o;omega)];simp)
        clear X3 d0 d1;go_wp2_with fail;go_roundg(n - (j+1));case measure=>have :=ae.o;omega
        case rel=>
         go_light;refine⟨j+1,i,bs++[true],f,by have :=ae.o;omega,rfl,by go_num,zh ⟨by rw[Yf,hL.1];rfl,by have :=hL.2.1;omega,by rw[e1.o];exact hL.2.2⟩,J3,R3,zh (by rw[e1.o];exact hH.o),zh (fun q hq ak=>hT.o q (by omega) ak)⟩
      | false=>
        have e1:Hid (dm (bs++[false]) (l.take (j+1))=dm bs (l.take j)++[x]):=zh (by
         rw[TK.o,fF _ _ _ _ (by rw[hL.1,Yu,LN.o];have :=ae.o;omega)];simp)
        have d2:decide ((i:Int) < (n:Int))=true:=(by rw[decide_eq_true_iff];have :=ae.o;have :=hL.2.1;omega);have d3:decide (i < n)=true:=(by rw[decide_eq_true_iff];have :=ae.o;have :=hL.2.1;omega);have aK:IntKind.i64.wrap ((i:Int)+1)=(((i+1:Nat):Int)):=(IntWalk.i64_in _ (by have :=QN.o;have :=ae.o;have :=hL.2.1;omega)).trans (by omega);have q2:=Ye i;have q4:(i:Int) < (n:Int):=of_decide_eq_true d2;clear d0 d1;go_wp2_with(with_reducible refine zS 32 ?_);refine zh (zL X3 rfl YZ ?_);go_wp2_with(with_reducible refine zn ?_);refine zh ?_;refine fC rfl 53 (.tmp 33) (.tmp 32) rfl b (i*3) rfl (cap*3) 3 _ f (c x) (fun q=>if i*3≤q∧q < i*3+3 then c x (q - i*3)else f q) rfl R3.o (by have :=ae.o;have :=hL.2.1;have :=HC.o;omega) (by kernel_rfl) (fun j _=>H1.o x j) (fun _ _=>rfl) ?_;intro w4 R4 O4;have J4:=zh (aB.o _ _ _ J3.o O4.o);clear J3 R3 X3 O4 d2 d3;go_wp2_with fail;go_roundg(n - (j+1))
        case measure=>have :=ae.o;omega
        case rel=>
         go_light;refine⟨j+1,i+1,bs++[false],_,by have :=ae.o;omega,by go_num,by go_num,zh ⟨by rw[Yf,hL.1];rfl,by have :=hL.2.1;omega,by rw[e1.o,Yf,hL.2.2];rfl⟩,J4,R4,zh (fun q hq z hz=>?_),zh (fun q hq ak z hz=>?_)⟩
         · rw[e1.o];by_cases e:q=i
           · subst e;rw[if_pos ⟨by omega,by omega⟩,show 3*q+z - q*3=z by omega];congr 1;have :=hL.2.2;rw[Yd,Xb (by omega),this,Nat.sub_self];rfl
           · rw[if_neg (by omega),hH.o q (by omega) z hz];congr 1;have :=hL.2.2;rw[Yd,Yd,Xd (by omega)]
         · have :=hL.2.1;rw[if_neg (by omega)];exact hT.o q (by omega) ak z hz
    · obtain⟨d0,d1⟩:=zk af;obtain rfl:j=n:=(by omega);clear af;have aI:=hL.2.1;have b1:(i:Int)≤(j:Int):=(by omega);have b2:(j:Int)≤(cap:Int):=(by have :=HC.o;omega);have q3:=Ye i;have q5:(i:Int) < (cap:Int):=(by omega);have q6:i < cap:=(by omega);clear aI;go_upto_region 11 with fail;clear d0 d1;go_wp2_with(with_reducible refine zn ?_);refine zh ?_;refine iZ rfl (.tmp 38) 46 53 rfl b (i*3) (j - i) (cap - i) (cap*3) f rfl Tryz.underlying46 (.agg #[.int .i64 0,.int .i64 0,.int .i64 0]) (fun w=>by kernel_rfl) (fun u hu=>by simp[Value.cells]at hu;rcases hu with rfl | rfl | rfl<;>rfl) (by have :=hL.2.1;omega) hR.o (by have :=hL.2.1;have :=HC.o;show i*3+(j - i)*3≤cap*3;omega) ?_;intro w2 f2 R2 O2 F2;have J2:=zh (aB.o _ _ _ hJ.o O2.o);clear O2 hJ hR;go_wp2_with fail;go_ret;have hi:=hL.2.2;have hlen:=hL.1;have e9:l.take j=l:=Yq (by rw[LN.o];exact Ya _);rw[e9]at hi;refine⟨bs,by rw[hi];rfl,hlen,?_,J2.o⟩
      rw[hi]
      exact ax.ofRow d (by decide) aA.o R2.o hi.symm (by rw[hi];omega) HM.o (fun q hq z hz=>by
       rw[hi]at hq
       rw[F2.o _ (by omega),hH.o q hq z hz,e9])
 · clear HP;go_wp2_with fail;go_ret;refine⟨List.replicate n false,?_,by simp,?_,hj⟩
   · rw[←LN.o,iH];rfl
   · rw[←LN.o,iH];exact ax.ofRow d (by decide) aA.o hr rfl (by rw[LN.o];exact HC.o) HM.o (fun i hi j hj=>HF.o i (by rw[←LN.o];exact hi) j hj)
theorem wF{α:Type}{c:α→Nat→Value}(d:α)(h1:∀u j,(c u j).oneCell'=true){g:Nat}{lb:Array Value}(eg:∀args w,(callFunc g args).run Tryz.prog w=.ok (.enter g args) w)(J:List Bool→World→Prop)(l:List α)(b cap base:Nat)(f:Nat→Value)(w:World)(az:base≤b)(hm:cap≤9223372036854775807)(hr:ag w b 75 (cap*5) f)(hc:l.length≤cap)(hf:∀i,i < l.length→∀j,j < 5→f (5*i+j)=c (l.getD i d) j)(hn:l.length≤1000000)(h0:J [] w)
 (ai:∀bs W W',J bs W→Below W.heap.size W W'→J bs W') (aj:∀bs W W',J bs W→aG b W W'→J bs W')
 (hp:∀bs W,J bs W→bs.length < l.length→Calls Tryz.prog g (#[.agg (ah 5 (c (l.getD bs.length d)))]++lb) W fun e W'=>∃r,e=.returned (.bool r)∧J (bs++[r]) W'∧dK W W'):
 Calls Tryz.prog 181 #[.slice (some ⟨b,0,none⟩) l.length cap,.func (.func g) #[] lb] w fun e w'=>
  ∃bs:List Bool,e=.returned (.slice (some ⟨b,0,none⟩) (dm bs l).length cap)∧bs.length=l.length∧ax 75 5 c w' base (.slice (some ⟨b,0,none⟩) (dm bs l).length cap) (dm bs l)∧J bs w':=by
 have C:=zh (vP d eg J l b cap f w hr hc hf hn h0 hp);have HF:=zh hf;have HP:=zh hp;have HC:=zh hc;have QN:=zh hn;have aA:=zh az;have HM:=zh hm;have aC:=zh ai;have aB:=zh aj;have H1:=zh h1;obtain⟨n,au⟩:=zg l.length;have LN:=zh au;rw[au]at HF HP QN HC C ⊢;clear hr hf hp hn h0 hc au az hm ai aj h1;go_in;go_wp2_with fail;refine C.mono ?_;clear C;rintro e w1 (⟨k,hk,rfl,hj,hr⟩ | ⟨rfl,hj,hr⟩)
 · have J1:=zh hj;have R1:=zh hr;have HK:=zh hk;have e0:decide ((k:Int)= -1)=false:=zT (by omega);have e1:((k:Int)== -1)=false:=(by rw[beq_eq_false_iff_ne];omega);have aF:IntKind.i64.wrap ((k:Int)+1)=(((k+1:Nat):Int)):=(IntWalk.i64_in _ (by have :=QN.o;omega)).trans (by omega);clear hj hr hk;go_wp2_with fail;clear aF e0 e1
   go_loopg [5,6] (n - (k+1)) (fun g s5 s6 wx=>∃(j i:Nat) (bs:List Bool) (f:Nat→Value),j+g=n∧s5=.int .i64 (i:Int)∧s6=.int .i64 (j:Int)∧Hid (bs.length=j∧i < j∧(dm bs (l.take j)).length=i)∧Hid (J bs wx)∧Hid (ag wx b 75 (cap*5) f)∧
    Hid (∀q,q < i→∀z,z < 5→f (5*q+z)=c ((dm bs (l.take j)).getD q d) z)∧Hid (∀q,j≤q→q < n→∀z,z < 5→f (5*q+z)=c (l.getD q d) z))
   case atStart=>
    have hk:=HK.o
    have e1:dm (List.replicate k false++[true]) (l.take (k+1))=l.take k:=by
     rw[aH d l (by rw[LN.o];exact hk),fF _ _ _ _ (by rw[List.length_replicate,Yu,LN.o];omega)];have e2:=iH (l.take k);rw[show(l.take k).length=k from by rw[Yu,LN.o];omega]at e2;rw[e2];simp
    refine⟨k+1,k,_,f,by omega,rfl,by go_num,zh ⟨by simp,Nat.lt_succ_self _,by rw[e1,Yu,LN.o];omega⟩,J1,R1,zh (fun q hq z hz=>?_),zh (fun q hq ak z hz=>HF.o q ak z hz)⟩;rw[e1,HF.o q (by omega) z hz];congr 1;rw[Yd,Yd,Yy hq]
   case round=>
    clear J1 R1 HK;obtain⟨j,i,bs,f,hg,rfl,rfl,hL,hJ,hR,hH,hT⟩:=hrel;obtain⟨w1,rfl⟩:=zG wr;have q0:=Ye j;have q1:=Ye i;by_cases af:j < n
    · obtain⟨d0,d1,-⟩:=zl af;have ae:=zh af
      have ay:Hid (∀z,z < 5→w1.cell? ⟨b,0+5*j+z,none⟩=some (c (l.getD j d) z)):=zh (fun z hz=>by
       have h2:=HC.o;have h3:=ae.o;rw[←hT.o j (Ya _) h3 z hz,Yl]
       exact hR.cell (by omega))
      have TK:=zh (aH d l (show j < l.length by rw[LN.o];exact af));have CL:=zh (fun W h=>HP.o bs W h (by rw[hL.1];exact af));rw[hL.1]at CL;have aJ:IntKind.i64.wrap ((j:Int)+1)=(((j+1:Nat):Int)):=(IntWalk.i64_in _ (by have :=QN.o;omega)).trans (by omega);obtain⟨x,hx⟩:=zg (l.getD j d);rw[hx]at ay TK CL;clear af hx;go_upto_region 7 with fail;go_wp2_with(with_reducible refine zS 25 ?_);refine zh (zE b (j*5) rfl YV 0 j (by rw[Ym,Yl]) (c x) ay.o ?_);have B1:=zh (Yb w1.heap.size w1);clear ay;have Zr:=zh (ag.new w1 75 5 (chC ch0));go_upto_region 8 with((with_reducible refine zN ?_);refine zV Zr rfl (c x) rfl YV (fun j _=>H1.o x j) ?_;intro w2 X2 o2);have b2:Below w1.heap.size w1 w2:=zO o2;have B2:=zD B1 b2;clear b2 o2 Zr B1;have J2:=zh (aC.o _ _ _ hJ.o B2.o);have R2:=zh (hR.below B2.o);clear hJ hR B2;go_wp2_with(with_reducible refine zS 27 ?_);refine zh (zL X2 rfl YV ?_);go_wp2_with fail
      refine(CL.o _ J2.o).mono ?_;clear CL J2;rintro e w3 ⟨r,rfl,j3,k3⟩;have J3:=zh j3;have R3:=zh (k3.row R2.o);have X3:=zh (k3.row X2.o);clear j3 k3 R2 X2
      cases r with
      | true=>
        have e1:Hid (dm (bs++[true]) (l.take (j+1))=dm bs (l.take j)):=zh (by
         rw[TK.o,fF _ _ _ _ (by rw[hL.1,Yu,LN.o];have :=ae.o;omega)];simp)
        clear X3 d0 d1;go_wp2_with fail;go_roundg(n - (j+1));case measure=>have :=ae.o;omega
        case rel=>
         go_light;refine⟨j+1,i,bs++[true],f,by have :=ae.o;omega,rfl,by go_num,zh ⟨by rw[Yf,hL.1];rfl,by have :=hL.2.1;omega,by rw[e1.o];exact hL.2.2⟩,J3,R3,zh (by rw[e1.o];exact hH.o),zh (fun q hq ak=>hT.o q (by omega) ak)⟩
      | false=>
        have e1:Hid (dm (bs++[false]) (l.take (j+1))=dm bs (l.take j)++[x]):=zh (by
         rw[TK.o,fF _ _ _ _ (by rw[hL.1,Yu,LN.o];have :=ae.o;omega)];simp)
        have d2:decide ((i:Int) < (n:Int))=true:=(by rw[decide_eq_true_iff];have :=ae.o;have :=hL.2.1;omega);have d3:decide (i < n)=true:=(by rw[decide_eq_true_iff];have :=ae.o;have :=hL.2.1;omega);have aK:IntKind.i64.wrap ((i:Int)+1)=(((i+1:Nat):Int)):=(IntWalk.i64_in _ (by have :=QN.o;have :=ae.o;have :=hL.2.1;omega)).trans (by omega);have q2:=Ye i;have q4:(i:Int) < (n:Int):=of_decide_eq_true d2;clear d0 d1;go_wp2_with(with_reducible refine zS 32 ?_);refine zh (zL X3 rfl YV ?_);go_wp2_with(with_reducible refine zn ?_);refine zh ?_;refine fC rfl 75 (.tmp 33) (.tmp 32) rfl b (i*5) rfl (cap*5) 5 _ f (c x) (fun q=>if i*5≤q∧q < i*5+5 then c x (q - i*5)else f q) rfl R3.o (by have :=ae.o;have :=hL.2.1;have :=HC.o;omega) (by kernel_rfl) (fun j _=>H1.o x j) (fun _ _=>rfl) ?_;intro w4 R4 O4;have J4:=zh (aB.o _ _ _ J3.o O4.o);clear J3 R3 X3 O4 d2 d3;go_wp2_with fail;go_roundg(n - (j+1))
        case measure=>have :=ae.o;omega
        case rel=>
         go_light;refine⟨j+1,i+1,bs++[false],_,by have :=ae.o;omega,by go_num,by go_num,zh ⟨by rw[Yf,hL.1];rfl,by have :=hL.2.1;omega,by rw[e1.o,Yf,hL.2.2];rfl⟩,J4,R4,zh (fun q hq z hz=>?_),zh (fun q hq ak z hz=>?_)⟩
         · rw[e1.o];by_cases e:q=i
           · subst e;rw[if_pos ⟨by omega,by omega⟩,show 5*q+z - q*5=z by omega];congr 1;have :=hL.2.2;rw[Yd,Xb (by omega),this,Nat.sub_self];rfl
           · rw[if_neg (by omega),hH.o q (by omega) z hz];congr 1;have :=hL.2.2;rw[Yd,Yd,Xd (by omega)]
         · have :=hL.2.1;rw[if_neg (by omega)];exact hT.o q (by omega) ak z hz
    · obtain⟨d0,d1⟩:=zk af;obtain rfl:j=n:=(by omega);clear af;have aI:=hL.2.1;have b1:(i:Int)≤(j:Int):=(by omega);have b2:(j:Int)≤(cap:Int):=(by have :=HC.o;omega);have q3:=Ye i;have q5:(i:Int) < (cap:Int):=(by omega);have q6:i < cap:=(by omega);clear aI;go_upto_region 11 with fail;clear d0 d1;go_wp2_with(with_reducible refine zn ?_);refine zh ?_;refine iZ rfl (.tmp 38) 67 75 rfl b (i*5) (j - i) (cap - i) (cap*5) f rfl Tryz.underlying67 (.agg #[.int .i64 0,.int .i64 0,.int .i64 0,.int .i64 0,.int .i64 0]) (fun w=>by kernel_rfl) (fun u hu=>by simp[Value.cells]at hu;rcases hu with rfl | rfl | rfl | rfl | rfl<;>rfl) (by have :=hL.2.1;omega) hR.o (by have :=hL.2.1;have :=HC.o;show i*5+(j - i)*5≤cap*5;omega) ?_;intro w2 f2 R2 O2 F2;have J2:=zh (aB.o _ _ _ hJ.o O2.o);clear O2 hJ hR;go_wp2_with fail;go_ret;have hi:=hL.2.2;have hlen:=hL.1;have e9:l.take j=l:=Yq (by rw[LN.o];exact Ya _);rw[e9]at hi
      refine⟨bs,by rw[hi];rfl,hlen,?_,J2.o⟩;rw[hi]
      exact ax.ofRow d (by decide) aA.o R2.o hi.symm (by rw[hi];omega) HM.o (fun q hq z hz=>by
       rw[hi]at hq
       rw[F2.o _ (by omega),hH.o q hq z hz,e9])
 · clear HP;go_wp2_with fail;go_ret;refine⟨List.replicate n false,?_,by simp,?_,hj⟩
   · rw[←LN.o,iH];rfl
   · rw[←LN.o,iH];exact ax.ofRow d (by decide) aA.o hr rfl (by rw[LN.o];exact HC.o) HM.o (fun i hi j hj=>HF.o i (by rw[←LN.o];exact hi) j hj)
theorem pg{α:Type}{c:α→Nat→Value}(d:α)(h1:∀u j,(c u j).oneCell'=true){g:Nat}{lb:Array Value}(eg:∀args w,(callFunc g args).run Tryz.prog w=.ok (.enter g args) w)(J:List Bool→World→Prop)(l:List α)(b cap base:Nat)(f:Nat→Value)(w:World)(az:base≤b)(hm:cap≤9223372036854775807)(hr:ag w b 96 (cap*36) f)(hc:l.length≤cap)(hf:∀i,i < l.length→∀j,j < 36→f (36*i+j)=c (l.getD i d) j)(hn:l.length≤1000000)(h0:J [] w)
 (ai:∀bs W W',J bs W→Below W.heap.size W W'→J bs W') (aj:∀bs W W',J bs W→aG b W W'→J bs W')
 (hp:∀bs W,J bs W→bs.length < l.length→Calls Tryz.prog g (#[.agg (ah 36 (c (l.getD bs.length d)))]++lb) W fun e W'=>∃r,e=.returned (.bool r)∧J (bs++[r]) W'∧dK W W'):
 Calls Tryz.prog 24 #[.slice (some ⟨b,0,none⟩) l.length cap,.func (.func g) #[] lb] w fun e w'=>
  ∃bs:List Bool,e=.returned (.slice (some ⟨b,0,none⟩) (dm bs l).length cap)∧bs.length=l.length∧ax 96 36 c w' base (.slice (some ⟨b,0,none⟩) (dm bs l).length cap) (dm bs l)∧J bs w':=by
 have C:=zh (oP d eg J l b cap f w hr hc hf hn h0 hp);have HF:=zh hf;have HP:=zh hp;have HC:=zh hc;have QN:=zh hn;have aA:=zh az;have HM:=zh hm;have aC:=zh ai;have aB:=zh aj;have H1:=zh h1;obtain⟨n,au⟩:=zg l.length;have LN:=zh au;rw[au]at HF HP QN HC C ⊢;clear hr hf hp hn h0 hc au az hm ai aj h1;go_in;go_wp2_with fail;refine C.mono ?_;clear C;rintro e w1 (⟨k,hk,rfl,hj,hr⟩ | ⟨rfl,hj,hr⟩)
 · have J1:=zh hj;have R1:=zh hr;have HK:=zh hk;have e0:decide ((k:Int)= -1)=false:=zT (by omega);have e1:((k:Int)== -1)=false:=(by rw[beq_eq_false_iff_ne];omega);have aF:IntKind.i64.wrap ((k:Int)+1)=(((k+1:Nat):Int)):=(IntWalk.i64_in _ (by have :=QN.o;omega)).trans (by omega);clear hj hr hk;go_wp2_with fail;clear aF e0 e1
   go_loopg [5,6] (n - (k+1)) (fun g s5 s6 wx=>∃(j i:Nat) (bs:List Bool) (f:Nat→Value),j+g=n∧s5=.int .i64 (i:Int)∧s6=.int .i64 (j:Int)∧Hid (bs.length=j∧i < j∧(dm bs (l.take j)).length=i)∧Hid (J bs wx)∧Hid (ag wx b 96 (cap*36) f)∧
    Hid (∀q,q < i→∀z,z < 36→f (36*q+z)=c ((dm bs (l.take j)).getD q d) z)∧Hid (∀q,j≤q→q < n→∀z,z < 36→f (36*q+z)=c (l.getD q d) z))
   case atStart=>
    have hk:=HK.o
    have e1:dm (List.replicate k false++[true]) (l.take (k+1))=l.take k:=by
     rw[aH d l (by rw[LN.o];exact hk),fF _ _ _ _ (by rw[List.length_replicate,Yu,LN.o];omega)];have e2:=iH (l.take k);rw[show(l.take k).length=k from by rw[Yu,LN.o];omega]at e2;rw[e2];simp
    refine⟨k+1,k,_,f,by omega,rfl,by go_num,zh ⟨by simp,Nat.lt_succ_self _,by rw[e1,Yu,LN.o];omega⟩,J1,R1,zh (fun q hq z hz=>?_),zh (fun q hq ak z hz=>HF.o q ak z hz)⟩;rw[e1,HF.o q (by omega) z hz];congr 1;rw[Yd,Yd,Yy hq]
   case round=>
    clear J1 R1 HK;obtain⟨j,i,bs,f,hg,rfl,rfl,hL,hJ,hR,hH,hT⟩:=hrel;obtain⟨w1,rfl⟩:=zG wr;have q0:=Ye j;have q1:=Ye i;by_cases af:j < n
    · obtain⟨d0,d1,-⟩:=zl af;have ae:=zh af
      have ay:Hid (∀z,z < 36→w1.cell? ⟨b,0+36*j+z,none⟩=some (c (l.getD j d) z)):=zh (fun z hz=>by
       have h2:=HC.o;have h3:=ae.o;rw[←hT.o j (Ya _) h3 z hz,Yl]
       exact hR.cell (by omega))
      have TK:=zh (aH d l (show j < l.length by rw[LN.o];exact af));have CL:=zh (fun W h=>HP.o bs W h (by rw[hL.1];exact af));rw[hL.1]at CL;have aJ:IntKind.i64.wrap ((j:Int)+1)=(((j+1:Nat):Int)):=(IntWalk.i64_in _ (by have :=QN.o;omega)).trans (by omega);obtain⟨x,hx⟩:=zg (l.getD j d);rw[hx]at ay TK CL;clear af hx;go_upto_region 7 with fail;go_wp2_with(with_reducible refine zS 25 ?_);refine zh (zE b (j*36) rfl Zj 0 j (by rw[Ym,Yl]) (c x) ay.o ?_);have B1:=zh (Yb w1.heap.size w1);clear ay;have Zr:=zh (ag.new w1 96 36 (dvZ));go_upto_region 8 with((with_reducible refine zN ?_);refine zV Zr rfl (c x) rfl Zj (fun j _=>H1.o x j) ?_;intro w2 X2 o2);have b2:Below w1.heap.size w1 w2:=zO o2;have B2:=zD B1 b2;clear b2 o2 Zr B1;have J2:=zh (aC.o _ _ _ hJ.o B2.o);have R2:=zh (hR.below B2.o);clear hJ hR B2;go_wp2_with(with_reducible refine zS 27 ?_);refine zh (zL X2 rfl Zj ?_);go_wp2_with fail
      refine(CL.o _ J2.o).mono ?_;clear CL J2;rintro e w3 ⟨r,rfl,j3,k3⟩;have J3:=zh j3;have R3:=zh (k3.row R2.o);have X3:=zh (k3.row X2.o);clear j3 k3 R2 X2
      cases r with
      | true=>
        have e1:Hid (dm (bs++[true]) (l.take (j+1))=dm bs (l.take j)):=zh (by
         rw[TK.o,fF _ _ _ _ (by rw[hL.1,Yu,LN.o];have :=ae.o;omega)];simp)
        clear X3 d0 d1;go_wp2_with fail;go_roundg(n - (j+1));case measure=>have :=ae.o;omega
        case rel=>
         go_light;refine⟨j+1,i,bs++[true],f,by have :=ae.o;omega,rfl,by go_num,zh ⟨by rw[Yf,hL.1];rfl,by have :=hL.2.1;omega,by rw[e1.o];exact hL.2.2⟩,J3,R3,zh (by rw[e1.o];exact hH.o),zh (fun q hq ak=>hT.o q (by omega) ak)⟩
      | false=>
        have e1:Hid (dm (bs++[false]) (l.take (j+1))=dm bs (l.take j)++[x]):=zh (by
         rw[TK.o,fF _ _ _ _ (by rw[hL.1,Yu,LN.o];have :=ae.o;omega)];simp)
        have d2:decide ((i:Int) < (n:Int))=true:=(by rw[decide_eq_true_iff];have :=ae.o;have :=hL.2.1;omega);have d3:decide (i < n)=true:=(by rw[decide_eq_true_iff];have :=ae.o;have :=hL.2.1;omega);have aK:IntKind.i64.wrap ((i:Int)+1)=(((i+1:Nat):Int)):=(IntWalk.i64_in _ (by have :=QN.o;have :=ae.o;have :=hL.2.1;omega)).trans (by omega);have q2:=Ye i;have q4:(i:Int) < (n:Int):=of_decide_eq_true d2;clear d0 d1;go_wp2_with(with_reducible refine zS 32 ?_);refine zh (zL X3 rfl Zj ?_);go_wp2_with(with_reducible refine zn ?_);refine zh ?_;refine fC rfl 96 (.tmp 33) (.tmp 32) rfl b (i*36) rfl (cap*36) 36 _ f (c x) (fun q=>if i*36≤q∧q < i*36+36 then c x (q - i*36)else f q) rfl R3.o (by have :=ae.o;have :=hL.2.1;have :=HC.o;omega) (by kernel_rfl) (fun j _=>H1.o x j) (fun _ _=>rfl) ?_;intro w4 R4 O4;have J4:=zh (aB.o _ _ _ J3.o O4.o);clear J3 R3 X3 O4 d2 d3;go_wp2_with fail;go_roundg(n - (j+1))
        case measure=>have :=ae.o;omega
        case rel=>
         go_light;refine⟨j+1,i+1,bs++[false],_,by have :=ae.o;omega,by go_num,by go_num,zh ⟨by rw[Yf,hL.1];rfl,by have :=hL.2.1;omega,by rw[e1.o,Yf,hL.2.2];rfl⟩,J4,R4,zh (fun q hq z hz=>?_),zh (fun q hq ak z hz=>?_)⟩
         · rw[e1.o];by_cases e:q=i
           · subst e;rw[if_pos ⟨by omega,by omega⟩,show 36*q+z - q*36=z by omega];congr 1;have :=hL.2.2;rw[Yd,Xb (by omega),this,Nat.sub_self];rfl
           · rw[if_neg (by omega),hH.o q (by omega) z hz];congr 1;have :=hL.2.2;rw[Yd,Yd,Xd (by omega)]
         · have :=hL.2.1;rw[if_neg (by omega)];exact hT.o q (by omega) ak z hz
    · obtain⟨d0,d1⟩:=zk af;obtain rfl:j=n:=(by omega);clear af;have aI:=hL.2.1;have b1:(i:Int)≤(j:Int):=(by omega);have b2:(j:Int)≤(cap:Int):=(by have :=HC.o;omega);have q3:=Ye i;have q5:(i:Int) < (cap:Int):=(by omega);have q6:i < cap:=(by omega);clear aI;go_upto_region 11 with fail;clear d0 d1;go_wp2_with(with_reducible refine zn ?_);refine zh ?_;refine iZ rfl (.tmp 38) 92 96 rfl b (i*36) (j - i) (cap - i) (cap*36) f rfl Tryz.underlying92 (.agg (ah 36 dvZ)) (fun w=>by kernel_rfl) (fun u hu=>by exact YC u hu) (by have :=hL.2.1;omega) hR.o (by have :=hL.2.1;have :=HC.o;show i*36+(j - i)*36≤cap*36;omega) ?_;intro w2 f2 R2 O2 F2;have J2:=zh (aB.o _ _ _ hJ.o O2.o);clear O2 hJ hR;go_wp2_with fail;go_ret;have hi:=hL.2.2;have hlen:=hL.1;have e9:l.take j=l:=Yq (by rw[LN.o];exact Ya _);rw[e9]at hi;refine⟨bs,by rw[hi];rfl,hlen,?_,J2.o⟩;rw[hi]
      exact ax.ofRow d (by decide) aA.o R2.o hi.symm (by rw[hi];omega) HM.o (fun q hq z hz=>by
       rw[hi]at hq
       rw[F2.o _ (by omega),hH.o q hq z hz,e9])
 · clear HP;go_wp2_with fail;go_ret;refine⟨List.replicate n false,?_,by simp,?_,hj⟩
   · rw[←LN.o,iH];rfl
   · rw[←LN.o,iH];exact ax.ofRow d (by decide) aA.o hr rfl (by rw[LN.o];exact HC.o) HM.o (fun i hi j hj=>HF.o i (by rw[←LN.o];exact hi) j hj)
def eqF(p:Nat→Bool)(n m:Nat):Bool:=decide (n=m)&&(List.range n).all p
theorem Ba{p:Nat→Bool}{n m:Nat}(h:n≠m):eqF p n m=false:=by unfold eqF;simp[h]
theorem Jt{p:Nat→Bool}{n m k:Nat}(h:k < n)(hk:p k=false):eqF p n m=false:=by
 unfold eqF;rw[show(List.range n).all p=false from by rw[List.all_eq_false];exact⟨k,List.mem_range.2 h,by rw[hk];simp⟩,Bool.and_false]
theorem BU{p:Nat→Bool}{n m:Nat}(h:n=m)(hf:∀i,i < n→p i=true):eqF p n m=true:=by
 unfold eqF;rw[show(List.range n).all p=true from by rw[List.all_eq_true];exact fun x hx=>hf x (List.mem_range.1 hx),Bool.and_true,zt h]
theorem Em{p:Nat→Bool}{n m:Nat}(h:eqF p n m=true):n=m∧∀i,i < n→p i=true:=by
 unfold eqF at h;rw[Bool.and_eq_true,decide_eq_true_eq,List.all_eq_true]at h;exact⟨h.1,fun i hi=>h.2 i (List.mem_range.2 hi)⟩
theorem Jh{g:Nat}{lb:Array Value}(eg:∀args w,(callFunc g args).run Tryz.prog w=.ok (.enter g args) w)(p:Nat→Bool)(n m:Nat)(c c':Nat→Nat→Value)(v u:Value)(w:World)(hv:aN 4 w v n c)(hu:aN 4 w u m c')(hn:n≤1000000)(hm:m≤1000000)(h1:∀i j,(c i j).oneCell'=true)(h2:∀i j,(c' i j).oneCell'=true)
 (hp:∀i W,i < n→i < m→Below w.heap.size w W→Calls Tryz.prog g (#[.agg (ah 4 (c i)),.agg (ah 4 (c' i))]++lb) W (zr (.bool (p i)) W)):
 Calls Tryz.prog 118 #[v,u,.func (.func g) #[] lb] w (zr (.bool (eqF p n m)) w):=by
 obtain⟨la,lc,rfl⟩:=hv.slice;obtain⟨la',aA,rfl⟩:=hu.slice;have H0:=zh hv;have HU:=zh hu;have HP:=zh hp;have H1:=zh h1;have H2:=zh h2;have HX:=zh (fun h=>Ba (p:=p) (n:=n) (m:=m) h);have HY:=zh (fun k (h:k < n) hk=>Jt (p:=p) (m:=m) h hk);have HZ:=zh (fun h hf=>BU (p:=p) (n:=n) (m:=m) h hf);obtain⟨R,hR⟩:=zg (eqF p n m);rw[hR]at HX HY HZ;rw[hR];have QN:=zh hn;clear hv hu hp hn hm hR h1 h2;go_in;have B0:=zh (Yb w.heap.size w);by_cases ak:n=m
 · subst ak;have e0:decide ((n:Int)=(n:Int))=true:=(by simp);go_wp2_with fail;go_loopg [17] n (fun g aB wx=>∃k:Nat,k+g=n∧aB=.int .i64 (k:Int)∧Hid (∀i,i < k→p i=true)∧Hid (Below w.heap.size w wx));case atStart=>exact⟨0,by omega,rfl,zh (fun i hi=>by omega),B0⟩
   case round=>
    clear B0;obtain⟨k,hk,rfl,hA,hB⟩:=hrel;have q0:=Ye k;by_cases ae:k < n
    · obtain⟨d0,d1,-⟩:=zl ae;obtain⟨b,off,rfl,au,hb,hc⟩:=aN.aI (s:=4) (n:=n) (a:=la) (k:=lc) (c:=c) (H0.below hB.o) ae;have af:=zh ae;have ax:=zh (fun j hj=>hc k ae j hj);have CL:=zh (fun W (h:Below w.heap.size w W)=>HP.o k W ae ae h);have aF:=zw  ((k:Int)+1) (by have :=QN.o;omega);obtain⟨w1,rfl⟩:=zG wr;have B1:=hB;clear hc au hb ae hB;go_upto_region 5 with fail;go_wp2_with(with_reducible refine zS 21 ?_);refine zh (zE b (off+k*4) rfl YX off k (by rw[Ym]) (c k) ax.o ?_);clear ax;have Zr:=zh (ag.new w1 153 4 (bxC bx0 hd0));go_upto_region 6 with((with_reducible refine zN ?_);refine zV Zr rfl (c k) rfl YX (fun j _=>H1.o k j) ?_;intro w2 X2 o2);have b2:Below w1.heap.size w1 w2:=zO o2;have B2:=zD B1 b2;clear b2 o2 Zr B1;obtain⟨b2,ai,rfl,aj,aC,ay⟩:=aN.aI (s:=4) (n:=n) (a:=la') (k:=aA) (c:=c') (HU.below B2.o) af.o;have HD:=zh (fun j hj=>ay k af.o j hj);clear ay aj aC
      go_wp2_with(with_reducible refine zS 25 ?_);refine zh (zE b2 (ai+k*4) rfl YX ai k (by rw[Ym]) (c' k) HD.o ?_);clear HD;have Zr:=zh (ag.new w2 153 4 (bxC bx0 hd0));go_upto_region 7 with((with_reducible refine zN ?_);refine zV Zr rfl (c' k) rfl YX (fun j _=>H2.o k j) ?_;intro w3 Y3 o3);have b3:Below w2.heap.size w2 w3:=zO o3;have B3:=zD B2 b3;have X3:=zh (X2.below b3);clear b3 o3 Zr B2 X2;go_wp2_with(with_reducible refine zS 27 ?_);refine zh (zL X3 rfl YX ?_);go_wp2_with(with_reducible refine zS 28 ?_);refine zh (zL Y3 rfl YX ?_);have az:=zh (CL.o w3 B3.o);go_wp2_with fail;refine az.mono ?_;rintro e w9 ⟨rfl,b9⟩;have B9:=zD B3 b9;clear b9 CL az B3 X3 Y3
      cases hq:p k with
      | false=>
        have E:R=false:=HY.o k af.o hq;subst E;clear hA hq;go_wp2_with fail;go_ret;exact⟨rfl,B9.o⟩
      | true=>
        have A2:Hid (∀i,i < k+1→p i=true):=zh (fun i hi=>by
         by_cases e:i=k
         · subst e;exact hq
         · exact hA.o i (by omega))
        clear hA hq;go_wp2_with fail;go_roundg(n - (k+1));case measure=>have :=af.o;omega
        case rel=>
         go_light;exact⟨k+1,by have :=af.o;omega,by go_num,A2,B9⟩
    · obtain⟨d0,d1⟩:=zk ae;have E:R=true:=HZ.o (by first | trivial | rfl) (fun i hi=>hA.o i (by omega));subst E;clear ae hk q0 hA;go_wp2_with fail;go_ret;exact⟨rfl,hB.o⟩
 · have e0:decide ((n:Int)=(m:Int))=false:=zT (by omega);have e1:decide (n=m)=false:=(by rw[decide_eq_false_iff_not];exact ak);have E:R=false:=HX.o ak;subst E;have e2:((n:Int)!=(m:Int))=true:=(by rw[bne_iff_ne];omega);clear HX HY HZ ak e0 e1;go_wp2_with fail;go_ret;exact⟨rfl,B0.o⟩
theorem uX{g:Nat}{lb:Array Value}(eg:∀args w,(callFunc g args).run Tryz.prog w=.ok (.enter g args) w)(p:Nat→Bool)(n m:Nat)(c c':Nat→Nat→Value)(v u:Value)(w:World)(hv:aN 3 w v n c)(hu:aN 5 w u m c')(hn:n≤1000000)(hm:m≤1000000)(h1:∀i j,(c i j).oneCell'=true)(h2:∀i j,(c' i j).oneCell'=true)
 (hp:∀i W,i < n→i < m→Below w.heap.size w W→Calls Tryz.prog g (#[.agg (ah 3 (c i)),.agg (ah 5 (c' i))]++lb) W (zr (.bool (p i)) W)):
 Calls Tryz.prog 119 #[v,u,.func (.func g) #[] lb] w (zr (.bool (eqF p n m)) w):=by
 obtain⟨la,lc,rfl⟩:=hv.slice;obtain⟨la',aA,rfl⟩:=hu.slice;have H0:=zh hv;have HU:=zh hu;have HP:=zh hp;have H1:=zh h1;have H2:=zh h2;have HX:=zh (fun h=>Ba (p:=p) (n:=n) (m:=m) h);have HY:=zh (fun k (h:k < n) hk=>Jt (p:=p) (m:=m) h hk);have HZ:=zh (fun h hf=>BU (p:=p) (n:=n) (m:=m) h hf);obtain⟨R,hR⟩:=zg (eqF p n m);rw[hR]at HX HY HZ;rw[hR];have QN:=zh hn;clear hv hu hp hn hm hR h1 h2;go_in;have B0:=zh (Yb w.heap.size w);by_cases ak:n=m
 · subst ak;have e0:decide ((n:Int)=(n:Int))=true:=(by simp);go_wp2_with fail;go_loopg [17] n (fun g aB wx=>∃k:Nat,k+g=n∧aB=.int .i64 (k:Int)∧Hid (∀i,i < k→p i=true)∧Hid (Below w.heap.size w wx));case atStart=>exact⟨0,by omega,rfl,zh (fun i hi=>by omega),B0⟩
   case round=>
    clear B0;obtain⟨k,hk,rfl,hA,hB⟩:=hrel;have q0:=Ye k;by_cases ae:k < n
    · obtain⟨d0,d1,-⟩:=zl ae;obtain⟨b,off,rfl,au,hb,hc⟩:=aN.aI (s:=3) (n:=n) (a:=la) (k:=lc) (c:=c) (H0.below hB.o) ae;have af:=zh ae;have ax:=zh (fun j hj=>hc k ae j hj);have CL:=zh (fun W (h:Below w.heap.size w W)=>HP.o k W ae ae h);have aF:=zw  ((k:Int)+1) (by have :=QN.o;omega);obtain⟨w1,rfl⟩:=zG wr;have B1:=hB;clear hc au hb ae hB;go_upto_region 5 with fail;go_wp2_with(with_reducible refine zS 21 ?_);refine zh (zE b (off+k*3) rfl YY off k (by rw[Ym]) (c k) ax.o ?_);clear ax;have Zr:=zh (ag.new w1 155 3 (wlC wl0 hd0));go_upto_region 6 with((with_reducible refine zN ?_);refine zV Zr rfl (c k) rfl YY (fun j _=>H1.o k j) ?_;intro w2 X2 o2);have b2:Below w1.heap.size w1 w2:=zO o2;have B2:=zD B1 b2;clear b2 o2 Zr B1;obtain⟨b2,ai,rfl,aj,aC,ay⟩:=aN.aI (s:=5) (n:=n) (a:=la') (k:=aA) (c:=c') (HU.below B2.o) af.o;have HD:=zh (fun j hj=>ay k af.o j hj);clear ay aj aC
      go_wp2_with(with_reducible refine zS 25 ?_);refine zh (zE b2 (ai+k*5) rfl YV ai k (by rw[Ym]) (c' k) HD.o ?_);clear HD;have Zr:=zh (ag.new w2 75 5 (chC ch0));go_upto_region 7 with((with_reducible refine zN ?_);refine zV Zr rfl (c' k) rfl YV (fun j _=>H2.o k j) ?_;intro w3 Y3 o3);have b3:Below w2.heap.size w2 w3:=zO o3;have B3:=zD B2 b3;have X3:=zh (X2.below b3);clear b3 o3 Zr B2 X2;go_wp2_with(with_reducible refine zS 27 ?_);refine zh (zL X3 rfl YY ?_);go_wp2_with(with_reducible refine zS 28 ?_);refine zh (zL Y3 rfl YV ?_);have az:=zh (CL.o w3 B3.o);go_wp2_with fail;refine az.mono ?_;rintro e w9 ⟨rfl,b9⟩;have B9:=zD B3 b9;clear b9 CL az B3 X3 Y3
      cases hq:p k with
      | false=>
        have E:R=false:=HY.o k af.o hq;subst E;clear hA hq;go_wp2_with fail;go_ret;exact⟨rfl,B9.o⟩
      | true=>
        have A2:Hid (∀i,i < k+1→p i=true):=zh (fun i hi=>by
         by_cases e:i=k
         · subst e;exact hq
         · exact hA.o i (by omega))
        clear hA hq;go_wp2_with fail;go_roundg(n - (k+1));case measure=>have :=af.o;omega
        case rel=>
         go_light;exact⟨k+1,by have :=af.o;omega,by go_num,A2,B9⟩
    · obtain⟨d0,d1⟩:=zk ae;have E:R=true:=HZ.o (by first | trivial | rfl) (fun i hi=>hA.o i (by omega));subst E;clear ae hk q0 hA;go_wp2_with fail;go_ret;exact⟨rfl,hB.o⟩
 · have e0:decide ((n:Int)=(m:Int))=false:=zT (by omega);have e1:decide (n=m)=false:=(by rw[decide_eq_false_iff_not];exact ak);have E:R=false:=HX.o ak;subst E;have e2:((n:Int)!=(m:Int))=true:=(by rw[bne_iff_ne];omega);clear HX HY HZ ak e0 e1;go_wp2_with fail;go_ret;exact⟨rfl,B0.o⟩
theorem xC{g:Nat}{lb:Array Value}(eg:∀args w,(callFunc g args).run Tryz.prog w=.ok (.enter g args) w)(p:Nat→Bool)(n m:Nat)(c c':Nat→Nat→Value)(v u:Value)(w:World)(hv:aN 3 w v n c)(hu:aN 1 w u m c')(hn:n≤1000000)(hm:m≤1000000)(h1:∀i j,(c i j).oneCell'=true)(h2:∀i,∃z,c' i 0=.int .i64 z)
 (hp:∀i W,i < n→i < m→Below w.heap.size w W→Calls Tryz.prog g (#[.agg (ah 3 (c i)),c' i 0]++lb) W (zr (.bool (p i)) W)):
 Calls Tryz.prog 174 #[v,u,.func (.func g) #[] lb] w (zr (.bool (eqF p n m)) w):=by
 obtain⟨la,lc,rfl⟩:=hv.slice;obtain⟨la',aA,rfl⟩:=hu.slice;have H0:=zh hv;have HU:=zh hu;have HP:=zh hp;have H1:=zh h1;have H2:=zh h2;have HX:=zh (fun h=>Ba (p:=p) (n:=n) (m:=m) h);have HY:=zh (fun k (h:k < n) hk=>Jt (p:=p) (m:=m) h hk);have HZ:=zh (fun h hf=>BU (p:=p) (n:=n) (m:=m) h hf);obtain⟨R,hR⟩:=zg (eqF p n m);rw[hR]at HX HY HZ;rw[hR];have QN:=zh hn;clear hv hu hp hn hm hR h1 h2;go_in;have B0:=zh (Yb w.heap.size w);by_cases aj:n=m
 · subst aj;have e0:decide ((n:Int)=(n:Int))=true:=(by simp);go_wp2_with fail;go_loopg [17] n (fun g aB wx=>∃k:Nat,k+g=n∧aB=.int .i64 (k:Int)∧Hid (∀i,i < k→p i=true)∧Hid (Below w.heap.size w wx));case atStart=>exact⟨0,by omega,rfl,zh (fun i hi=>by omega),B0⟩
   case round=>
    clear B0;obtain⟨k,hk,rfl,hA,hB⟩:=hrel;have q0:=Ye k;by_cases ae:k < n
    · obtain⟨d0,d1,-⟩:=zl ae;obtain⟨b,off,rfl,ak,hb,hc⟩:=aN.aI (s:=3) (n:=n) (a:=la) (k:=lc) (c:=c) (H0.below hB.o) ae;have af:=zh ae;have ax:=zh (fun j hj=>hc k ae j hj);have CL:=zh (fun W (h:Below w.heap.size w W)=>HP.o k W ae ae h);have aF:=zw  ((k:Int)+1) (by have :=QN.o;omega);obtain⟨w1,rfl⟩:=zG wr;have B1:=hB;clear hc ak hb ae hB;go_upto_region 5 with fail;go_wp2_with(with_reducible refine zS 21 ?_);refine zh (zE b (off+k*3) rfl YZ off k (by rw[Ym]) (c k) ax.o ?_);clear ax;have Zr:=zh (ag.new w1 53 3 (meC me0));go_upto_region 6 with((with_reducible refine zN ?_);refine zV Zr rfl (c k) rfl YZ (fun j _=>H1.o k j) ?_;intro w2 X2 o2);have b2:Below w1.heap.size w1 w2:=zO o2;have B2:=zD B1 b2;clear b2 o2 Zr B1;obtain⟨b2,au,rfl,ai,aC,ay⟩:=aN.aI (s:=1) (n:=n) (a:=la') (k:=aA) (c:=c') (HU.below B2.o) af.o;have HD:=zh (fun j hj=>ay k af.o j hj);clear ay ai aC;obtain⟨z,hz⟩:=H2.o k
      have lk:w2.cell? ⟨b2,au+k,none⟩=some (.int .i64 z):=(by have h:=HD.o 0 (by decide);rw[Nat.one_mul]at h;rw[←hz];exact h);have CL:=zh (fun W h=>(by have h2:=CL.o W h;rwa[hz]at h2:Calls Tryz.prog g (#[.agg (ah 3 (c k)),.int .i64 z]++lb) W (zr (.bool (p k)) W)));clear HD hz;go_wp2_with(with_reducible refine zS 27 ?_);refine zh (zL X2 rfl YZ ?_);have az:=zh (CL.o w2 B2.o);go_wp2_with fail;refine az.mono ?_;rintro e w9 ⟨rfl,b9⟩;have B9:=zD B2 b9;clear b9 CL az B2 X2 lk
      cases hq:p k with
      | false=>
        have E:R=false:=HY.o k af.o hq;subst E;clear hA hq;go_wp2_with fail;go_ret;exact⟨rfl,B9.o⟩
      | true=>
        have A2:Hid (∀i,i < k+1→p i=true):=zh (fun i hi=>by
         by_cases e:i=k
         · subst e;exact hq
         · exact hA.o i (by omega))
        clear hA hq;go_wp2_with fail;go_roundg(n - (k+1));case measure=>have :=af.o;omega
        case rel=>
         go_light;exact⟨k+1,by have :=af.o;omega,by go_num,A2,B9⟩
    · obtain⟨d0,d1⟩:=zk ae;have E:R=true:=HZ.o (by first | trivial | rfl) (fun i hi=>hA.o i (by omega));subst E;clear ae hk q0 hA;go_wp2_with fail;go_ret;exact⟨rfl,hB.o⟩
 · have e0:decide ((n:Int)=(m:Int))=false:=zT (by omega);have e1:decide (n=m)=false:=(by rw[decide_eq_false_iff_not];exact aj);have E:R=false:=HX.o aj;subst E;have e2:((n:Int)!=(m:Int))=true:=(by rw[bne_iff_ne];omega);clear HX HY HZ aj e0 e1;go_wp2_with fail;go_ret;exact⟨rfl,B0.o⟩
end Go.Proofs.YtfddbnmfllgifaaGreatDoor
namespace Go.Proofs.YtfddbnmfllgifaaGreatDoor
open Go.RowKit Cod
theorem aN.bytes{w:World}{v:Value}{l:List UInt8}{c:Nat→Nat→Value}(h:aN 1 w v l.length c)(hc:∀j,j < l.length→c j 0=vB (l.getD j 0)):BytesAt w v l:=by
 rcases h with⟨h1,h2⟩ | ⟨b,off,cap,h1,h2,h3,h4,h5,h6⟩
 · exact .inl ⟨h1,Yz h2⟩
 · exact .inr ⟨b,off,cap,h1,h2,h3,h4,h5,fun j hj=>by have :=h6 j hj 0 (by decide);rw[hc j hj]at this;simpa using this⟩
def vE(b:Nat→Value)(j:Nat):Value:=b j
theorem dF.lstE{w:World}{base:Nat}{v:Value}{L:List (Nat→Value)}{ts:List Tv}(h:ax 107 4 vE w base v L)(hn:L.length≤1000000)(hl:ts.length=L.length)
 (hc:∀i,i < ts.length→dF w (.agg (ah 4 (L.getD i eF))) (ts.getD i tv0)):dF w (.agg #[.int .i64 3,.int .i64 0,.string ByteArray.empty,v]) (eU ts):=
 .mk 3 0 ByteArray.empty v ts (fun i=>L.getD i eF) ⟨by decide,by decide⟩ ⟨by decide,by decide⟩ (by decide) (by have h2:=h.at' eF (by decide) (by decide) hn;rw[hl];exact h2) hc
theorem gB.lst{S:Nat→Prop}{w:World}{base:Nat}{v:Value}{L:List (Nat→Value)}{ts:List Tv}(h:ax 107 4 vE w base v L)(hn:L.length≤1000000)(hl:ts.length=L.length)(hS:∀b,base≤b→S b)
 (hc:∀i,i < ts.length→gB S w (.agg (ah 4 (L.getD i eF))) (ts.getD i tv0)):gB S w (.agg (ah 4 (bu 3 0 ⟨#[]⟩ v))) (eU ts):=by
 refine .mk 3 0 ByteArray.empty v ts (fun i=>L.getD i eF) ⟨by decide,by decide⟩ ⟨by decide,by decide⟩ (by decide) ?_ hc;rw[hl];rcases h.2 with⟨rfl,h3⟩ | ⟨g,cap,cur,rfl,hb,hg,hle,hm,hz,ht⟩
 · exact .inl ⟨⟨none,0,rfl,fun _=>rfl⟩,h3⟩
 · by_cases h0:L.length=0
   · exact .inl ⟨⟨_,cap,by rw[h0],fun h=>by cases h⟩,h0⟩
   · unfold maxLen at hm;refine .inr ⟨g,0,cap,rfl,hle,by omega,⟨by omega,by omega⟩,⟨(Yi.1 hg).1,hS g hb⟩,fun i hi j hj=>?_⟩;have h4:=World.ownsRow.cells h (g:=g) rfl (4*i+j) _ (dE eF L i j hi hj)
     rw[Addr.add_mid,Nat.add_assoc]at *
     simpa[vE]using h4
theorem dN.below{w w':World}{base:Nat}{v:Value}{ts:List Tv}(h:dN w base v ts)(b:Below w.heap.size w w'):dN w' base v ts:=h.keep ⟨b.os,b.tape,b.output,b.size,fun k hk _=>b.block k hk⟩ (fun k _ hk=>b.block k hk)
theorem dN.mono'{w:World}{base low:Nat}{v:Value}{ts:List Tv}(h:dN w base v ts)(hb:low≤base):dN w low v ts:=by
 obtain⟨c,h1,h2⟩:=h;exact⟨c,qh h1 hb,fun i hi=>(h2 i hi).keep (Ya _) (fun b _ h=>⟨⟨Yc hb h.1,h.2⟩,rfl⟩)⟩
theorem dN.JV{w w':World}{base rb:Nat}{v:Value}{ts:List Tv}(h:dN w base v ts)(o:aG rb w w')(ae:rb < base):dN w' base v ts:=h.only o.os o.tape o.output o.size o.block ae
theorem dN.val{w:World}{base:Nat}{sl:Value}{ts:List Tv}(h:dN w base sl ts)(hn:ts.length≤1000000):dF w (.agg #[.int .i64 3,.int .i64 0,.string ⟨#[]⟩,sl]) (eU ts):=by
 obtain⟨c,h1,h2⟩:=h.read (S:=fun b=>True) (by omega) (fun _ _=>trivial);exact .mk 3 0 ByteArray.empty sl ts c ⟨by decide,by decide⟩ ⟨by decide,by decide⟩ (by decide) h1.at' (fun i hi=>(h2 i hi).at')
theorem dN.valS{w:World}{base:Nat}{sl:Value}{ts:List Tv}(h:dN w base sl ts)(hn:ts.length≤1000000){S:Nat→Prop}(hS:∀b,base≤b→S b):gB S w (.agg (ah 4 (bu 3 0 ⟨#[]⟩ sl))) (eU ts):=by
 obtain⟨c,h1,h2⟩:=h.read (S:=S) (by omega) hS;exact .mk 3 0 ByteArray.empty sl ts c ⟨by decide,by decide⟩ ⟨by decide,by decide⟩ (by decide) h1 h2
theorem yh(zs:List Int)(v:Value)(w:World)(hv:nD w v zs)(hz:∀z∈zs,bQ z)(hl:zs.length≤100):
 Calls Tryz.prog 61 #[v] w fun e w'=>(∃sl,e=.returned (.agg #[.int .i64 3,.int .i64 0,.string ⟨#[]⟩,sl])∧dN w' w.heap.size sl (zs.map dL))∧Below w.heap.size w w':=by
 obtain⟨va,vc,rfl⟩:=hv.slice;have HV:=zh hv;have HZ:=zh hz;have HL:=zh hl;obtain⟨n,hn⟩:=zg zs.length;have HN:=zh hn;rw[hn];clear hv hz hl hn;go_in;have B0:=zh (Yb w.heap.size w);go_upto_region 1 with fail;obtain⟨w1,aB,b1,z1,Z1⟩:=zQ w (.cells #[.int .i64 0,.int .i64 0,.string ⟨#[]⟩,.slice none 0 0] 107) 107 4 (bu 0 0 ⟨#[]⟩ (.slice none 0 0)) rfl;rw[aB];(try rw[z1]);have B1:=zD B0 b1;clear b1 aB z1 B0;have ZL:=zh Z1.lt;go_upto_region 2 with fail;obtain⟨w2,ai⟩:=zg (w1.alloc (.cells #[.int .i64 3,.int .i64 0,.string ⟨#[]⟩,.slice none 0 0] 107));have b2:Below w1.heap.size w1 w2:=(by rw[←ai];exact(Yb _ _).alloc (Ya _) _);have I2:Hid (eP w2 w1.heap.size (.slice none 0 0) [] w2):=zh (by rw[←ai];exact eP.start w1);have z2:w1.heap.size+1=w2.heap.size:=(by rw[←ai];exact(Array.size_push _).symm);rw[ai];(try rw[z2]);have B2:=zD B1 b2;have Z2:=zh (Z1.below b2);clear b2 ai z2 B1 Z1;go_wp2_with fail
 have qn:(n:Int)≤100:=(by have :=HL.o;have :=HN.o;omega);go_loopg [4] n (fun g s4 wx=>∃(k:Nat) (sl:Value),k+g=n∧s4=.int .i64 (k:Int)∧Hid (eP w2 w1.heap.size sl ((zs.take k).map dL) wx));case atStart=>exact⟨0,.slice none 0 0,by omega,rfl,I2⟩
 case round=>
  obtain⟨k,sl,hk,rfl,hI⟩:=hrel;obtain⟨w3,rfl⟩:=zG wr;have q0:=Ye k;have B3:=zh (B2.trans (hI.only.below (K:=w.heap.size) (by have :=ZL.o;omega) (by have :=ZL.o;have :=I2.lt;omega)));by_cases af:k < n
  · obtain⟨d0,d1,-⟩:=zl af
    have aG:aN 1 w (.slice va n vc) n (fun i _=>.int .i64 (zs.getD i 0)):=by
     have h:=HV.o;unfold nD at h;rwa[HN.o]at h
    obtain⟨b,off,rfl,aP,hb,hc⟩:=aN.aI aG af;have X0:Hid (w3.cell? ⟨b,off+k,none⟩=some (.int .i64 (zs.getD k 0))):=zh ((B3.cell (p:=⟨b,off+k,none⟩) hb).trans (by have :=hc k af 0 (by decide);simpa using this));have aQ:=zh (Yg hb B2.size)
    have HE:Hid ((zs.take (k+1)).map dL=(zs.take k).map dL++[dL (zs.getD k 0)]):=zh (by
     rw[aH 0 _ (show k < zs.length by rw[HN.o];exact af),Yn];rfl)
    have HB:Hid (bQ (zs.getD k 0)):=zh (by
     rw[Yd,Yh (show k < zs.length by rw[HN.o];exact af)]
     exact HZ.o _ (List.getElem_mem _))
    obtain⟨x,hx⟩:=zg (zs.getD k 0);rw[hx]at X0 HE HB;obtain⟨ts,ak⟩:=zg ((zs.take k).map dL);have TL:Hid (ts.length≤1000000):=zh (by rw[←ak];simp only[Yk,Yu];have :=HL.o;omega);rw[ak]at HE hI;obtain⟨sa,sn,sc,rfl⟩:=hI.slice;have aK:=zh (Yg hb B3.size);have aO:=zh af;clear hx ak aG hc hb;go_upto_region 5 with fail;refine Tc.aA (Tc.Rl.stay (fun j=>j=w1.heap.size∨j=b)) 9 [] (.fl 0 (.fl 1 (.fl 2 (.fl 3 (.fl 4 (.fl 5 (.one 6 (.one 7 (.one 8 .done))))))))) (by kernel_rfl) (by kernel_rfl) ?_;intro w4 b4 e4;have I4:=zh (hI.later b4);have X4:=zh ((b4.cell (p:=⟨b,off+k,none⟩) aK.o).trans X0.o);have au:=zh (Yg aK.o b4.size);clear b4 e4 X0 hI;refine Tc.aj [0,1,2,3,4,5] [_,_,_,_,_,_] rfl ?_;dsimp only[zx,zy,zz];repeat(go_big_quiet_want;go_big_quiet_op;first | go_big_quiet_on | (refine⟨_,fun _ _=>rfl,?_⟩;go_big_quiet_on))
    refine zC w1.heap.size 3 rfl Ze (.slice sa sn sc) (fun W hW=>(aJ (S:=fun j=>j=w1.heap.size∨j=b) I4.row (.inl rfl) hW).cell (i:=3) (by decide)) ?_;simp only[Act.put,zu];(repeat(go_big_quiet_want;go_big_quiet_op;first | go_big_quiet_on | (refine⟨_,fun _ _=>rfl,?_⟩;go_big_quiet_on)));refine zC b (off+k) rfl zC3 (.int .i64 x) (fun W hW=>(fA (S:=fun j=>j=w1.heap.size∨j=b) (.inr rfl) hW).trans X4.o) ?_;simp only[Act.put,zu];refine wpQuiet_nil ?_;clear X4;refine Tc.ae 6 rfl (fun K hK=>?_);go_wp2_with fail;refine(gY x _).mono ?_;rintro e w5 ⟨rfl,b5⟩;have I5:=zh (I4.later b5);have ax:=zh (Yg au.o b5.size);go_wp2_with fail;refine hK _ _ (aC b5 (fun j hj=>by rcases hj with rfl | rfl;exact I4.row.lt;exact au.o)) ?_;clear hK K b5 I4 au;refine Tc.ae 7 rfl (fun K hK=>?_);go_wp2_with fail;have al:=(Yb _ w5).alloc (Ya _) (.cells #[.int .i64 1,.int .i64 x,.string ByteArray.empty,.slice none 0 0] 107)
    have I6:=zh (I5.later al);have ay:=zh (Yg ax.o al.size);have G6:=zh (ag.new w5 107 4 (bu 1 x ⟨#[]⟩ (.slice none 0 0)));refine hK _ _ (aC al (fun j hj=>by rcases hj with rfl | rfl;exact I5.row.lt;exact ax.o)) ?_;obtain⟨w6,az⟩:=zg (w5.alloc (.cells #[.int .i64 1,.int .i64 x,.string ByteArray.empty,.slice none 0 0] 107));rw[az]at I6 ay ⊢;rw[show w5.alloc (.cells (ah 4 (bu 1 x ⟨#[]⟩ (.slice none 0 0))) 107)=w6 from az]at G6;clear hK K al az I5 ax;refine Tc.ae 8 rfl (fun K hK=>?_);refine dR rfl (.tmp 13) (.tmp 19) rfl w2.heap.size (.slice sa sn sc) _ rfl I6.own w5.heap.size 1 (bu 1 x ⟨#[]⟩ (.slice none 0 0)) (dL x) rfl G6.o (RP _ _ HB.o) TL.o I6.size ?_;intro v9 w9 L9 s9;obtain⟨a9,n9,c9,rfl⟩:=L9.slice3;go_wp2_with fail;have BL:=zh (show w1.heap.size < w2.heap.size from I6.lt)
    refine hK _ _ (bP s9.o (fun j hj=>⟨by rcases hj with rfl | rfl;exact I6.row.lt;exact ay.o,fun e=>by have h1:=(I6.own.lt _ e).1;have h2:=BL.o;have h3:=aQ.o;rcases hj with rfl | rfl<;>omega⟩)) ?_;obtain⟨x9,f9⟩:=I6.mid s9.o;have I9:=zh (I6.push L9.o s9.o);rw[←HE.o]at I9;clear hK K L9 s9 I6 ay G6;refine Tc.aF (l:=[_,_]) rfl (fun K hK=>?_);go_wp2_with fail;clear x9 f9;go_roundg(gk - 1);case measure=>have :=aO.o;omega
    case rel=>
     go_light;exact⟨k+1,.slice a9 n9 c9,by have :=aO.o;omega,by go_num,I9⟩
  · obtain rfl:k=n:=(by omega);have d0:decide ((k:Int) < (k:Int))=false:=zT (by omega);have I3:Hid (eP w2 w1.heap.size sl (zs.map dL) w3):=zh (by have h:=hI.o;rwa[Yq (by rw[HN.o];omega)]at h);obtain⟨sa,sn,sc,rfl⟩:=I3.slice;have Z3:=zh (I3.row' Z2.o (fun e=>by have :=ZL.o;omega));have IL:=zh I2.lt;clear hI;go_wp2_with(with_reducible refine zS 22 ?_);refine zh (zL (zh I3.row) rfl YS ?_);go_wp2_with(with_reducible refine zn ?_);refine zh (zV Z3 rfl (bu 3 0 ⟨#[]⟩ (.slice sa sn sc)) rfl YS (fun j hj=>by match j,hj with | 0,_=>rfl | 1,_=>rfl | 2,_=>rfl | 3,_=>rfl) ?_);intro w4 Z4 O4;have V4:=zh ((I3.own.JV O4.o (by have :=ZL.o;have :=IL.o;omega)).mono' (show w.heap.size≤w2.heap.size from by have :=ZL.o;have :=IL.o;omega));have B4:=zh (B3.trans (O4.below (Ya _) B3.size));go_wp2_with fail
    refine bodyPost_ret (v:=.agg (ah 4 (bu 3 0 ⟨#[]⟩ (.slice sa sn sc)))) (by exact zB Z4 rfl rfl YS) rfl ⟨⟨_,rfl,V4.o⟩,B4.o⟩
theorem gX(n:Int)(w:World):
 Calls Tryz.prog 69 #[.int .i64 n] w (zr (.agg #[.int .i64 1,.int .i64 n,.string ByteArray.empty,.slice none 0 0]) w):=by
 go_in;go_wp2_with fail;refine bodyPost_ret (v:=.agg #[.int .i64 1,.int .i64 n,.string ByteArray.empty,.slice none 0 0]) (by exact zB (zh (ag.new w _ 4 (bu 1 n ByteArray.empty (.slice none 0 0)))) rfl rfl YS) rfl ⟨rfl,?_⟩;exact(Yb _ w).alloc (Ya _) _
theorem nT(l:List UInt8)(v:Value)(w:World)(hv:BytesAt w v l):
 Calls Tryz.prog 70 #[v] w (zr (.agg #[.int .i64 2,.int .i64 0,.string ⟨l.toArray⟩,.slice none 0 0]) w):=by
 obtain⟨a,c,rfl⟩:=hv.slice;have CV:=run_text (hv.below ((Yb _ w).alloc (Ya _) (.cells #[.int .i64 0,.int .i64 0,.string ⟨#[]⟩,.slice none 0 0] 107)));obtain⟨tx,ae⟩:=zg (ByteArray.mk l.toArray);rw[ae]at CV ⊢;clear hv ae;go_in;go_wp2_with fail;refine bodyPost_ret (v:=.agg #[.int .i64 2,.int .i64 0,.string tx,.slice none 0 0]) (by exact zB (zh (ag.new w _ 4 (bu 2 0 tx (.slice none 0 0)))) rfl rfl YS) rfl ⟨rfl,?_⟩;exact(Yb _ w).alloc (Ya _) _
theorem iR(a:Option Addr)(m cap:Nat)(w:World):
 Calls Tryz.prog 66 #[.slice a m cap] w (zr (.agg #[.int .i64 3,.int .i64 0,.string ByteArray.empty,.slice a m cap]) w):=by
 go_in;go_wp2_with fail;refine bodyPost_ret (v:=.agg #[.int .i64 3,.int .i64 0,.string ByteArray.empty,.slice a m cap]) (by exact zB (zh (ag.new w _ 4 (bu 3 0 ByteArray.empty (.slice a m cap)))) rfl rfl YS) rfl ⟨rfl,?_⟩;exact(Yb _ w).alloc (Ya _) _
theorem yD(zs:List Int)(v:Value)(w:World)(hv:nD w v zs)(hz:∀z∈zs,bQ z)(hl:zs.length≤100):
 Calls Tryz.prog 68 #[v] w fun e w'=>(∃u,e=.returned u∧dN w' w.heap.size u (zs.map dL))∧Below w.heap.size w w':=by
 obtain⟨va,vc,rfl⟩:=hv.slice;have HV:=zh hv;have HZ:=zh hz;have HL:=zh hl;obtain⟨n,hn⟩:=zg zs.length;have HN:=zh hn;rw[hn];clear hv hz hl hn;go_in;have B0:=zh (Yb w.heap.size w);go_wp2_with fail;have qn:(n:Int)≤100:=(by have :=HL.o;have :=HN.o;omega);go_loopg [3,8] n (fun g s3 s8 wx=>∃(k:Nat) (sl:Value),k+g=n∧s8=.int .i64 (k:Int)∧s3=sl∧Hid (dN wx w.heap.size sl ((zs.take k).map dL))∧Hid (Below w.heap.size w wx));case atStart=>exact⟨0,_,by omega,rfl,rfl,zh (dN.nil _ _),B0⟩
 case round=>
  obtain⟨k,sl,hk,rfl,rfl,hO,hB⟩:=hrel;obtain⟨w3,rfl⟩:=zG wr;have q0:=Ye k;have B3:=hB;by_cases ae:k < n
  · obtain⟨d0,d1,-⟩:=zl ae
    have ak:aN 1 w (.slice va n vc) n (fun i _=>.int .i64 (zs.getD i 0)):=by
     have h:=HV.o;unfold nD at h;rwa[HN.o]at h
    obtain⟨b,off,rfl,af,hb,hc⟩:=aN.aI ak ae;have x0:w3.cell? ⟨b,off+k,none⟩=some (.int .i64 (zs.getD k 0)):=(B3.cell (p:=⟨b,off+k,none⟩) hb).trans (by have :=hc k ae 0 (by decide);simpa using this)
    have HE:Hid ((zs.take (k+1)).map dL=(zs.take k).map dL++[dL (zs.getD k 0)]):=zh (by
     rw[aH 0 _ (show k < zs.length by rw[HN.o];exact ae),Yn];rfl)
    have HB:Hid (bQ (zs.getD k 0)):=zh (by
     rw[Yd,Yh (show k < zs.length by rw[HN.o];exact ae)]
     exact HZ.o _ (List.getElem_mem _))
    obtain⟨x,hx⟩:=zg (zs.getD k 0);rw[hx]at x0 HE HB;obtain⟨ts,ai⟩:=zg ((zs.take k).map dL);have TL:Hid (ts.length≤1000000):=zh (by rw[←ai];simp only[Yk,Yu];have :=HL.o;omega);rw[ai]at HE hO;obtain⟨sa,sn,sc,rfl⟩:=hO.slice3;have ax:=zw  ((k:Int)+1) (by omega);have au:=zh ae;clear hx ai ak hc hb af ae;go_wp2_with fail;refine(gX x _).mono ?_;rintro e w5 ⟨rfl,b5⟩;have O5:=zh (hO.below b5);have B5:=zD B3 b5;clear hO hB B3 b5 x0;go_wp2_with(with_reducible refine zS 16 ?_);refine zh ?_;have al:=(Yb _ w5).alloc (Ya _) (.cells #[.int .i64 1,.int .i64 x,.string ByteArray.empty,.slice none 0 0] 107);have O6:=zh (O5.below al);have B6:=zD B5 al;have G6:=zh (ag.new w5 107 4 (bu 1 x ⟨#[]⟩ (.slice none 0 0)));obtain⟨w6,aj⟩:=zg (w5.alloc (.cells #[.int .i64 1,.int .i64 x,.string ByteArray.empty,.slice none 0 0] 107));rw[aj]at O6 B6 ⊢
    rw[show w5.alloc (.cells (ah 4 (bu 1 x ⟨#[]⟩ (.slice none 0 0))) 107)=w6 from aj]at G6;clear al aj;refine dR rfl (.tmp 12) (.tmp 15) rfl w.heap.size (.slice sa sn sc) _ rfl O6.o w5.heap.size 1 (bu 1 x ⟨#[]⟩ (.slice none 0 0)) (dL x) rfl G6.o (RP _ _ HB.o) TL.o B6.size ?_;intro v9 w9 L9 s9;obtain⟨a9,n9,c9,rfl⟩:=L9.slice3;have B9:=zh (B6.trans (aO s9.o B6.size (fun j hj=>(O6.lt j hj).1)));rw[←HE.o]at L9;clear O5 B5 O6 B6 G6 s9;go_wp2_with fail;go_roundg(gk - 1);case measure=>have :=au.o;omega
    case rel=>
     go_light;exact⟨k+1,_,by have :=au.o;omega,by go_num,rfl,L9,B9⟩
  · obtain rfl:k=n:=(by omega);have d0:decide ((k:Int) < (k:Int))=false:=zT (by omega);have d1:decide (k < k)=false:=zT (by omega);have O9:=zh (show dN w3 w.heap.size _ (zs.map dL)from by have h:=hO.o;rwa[←HN.o,List.take_length]at h);clear hO ae hk q0;obtain⟨a9,n9,c9,rfl⟩:=O9.slice3;go_wp2_with fail;go_ret;exact⟨⟨_,rfl,O9.o⟩,B3.o⟩
end Go.Proofs.YtfddbnmfllgifaaGreatDoor
namespace Go.Proofs.YtfddbnmfllgifaaGreatDoor
open Go.ChangeShapes Go.WideShapes Go.ChangeAt Go.RowKit Cod Top
section
variable {H:Type}{enc:TypeId×Value→H}{W:World}{fuel:Nat}{cs:List Value}{x:DataW H×List MemPlace}
theorem iO{α:Type}{T e:TypeId}{s:Nat}{c:α→Nat→Value}{good:α→Prop}(d0:α)(ht:Tryz.prog.underlying T=some (.slice e))(hc:Tryz.prog.cellsOf e=s)(ah:0 < s)
 (ai:∀n cs x,DataW.trod enc Tryz.prog W 0 (fun _=>true) true n e cs=some x→∃a:α,good a∧cs=(List.range s).map (c a))
 (h:DataW.trod enc Tryz.prog W 0 (fun _=>true) true fuel T cs=some x):
 ∃(hd:Hd) (l:List α),cs=[hd.v]∧hd.n=l.length∧(∀a∈l,good a)∧SlW s W hd.v l.length (fun i=>c (l.getD i d0)):=by
 rcases Deep.open_slice ht h with⟨hcs,_⟩ | ⟨x,l,cp,m,n,D,Pl,hcs,_,hl,hm,hmm,hx,hi⟩
 · exact⟨⟨none,0,0⟩,[],hcs,rfl,(fun z hz=>by cases hz),.inl ⟨⟨none,0,rfl,fun _=>rfl⟩,rfl⟩⟩
 · obtain rfl:m=cp:=(by simpa using hmm);unfold maxLen at hm
   have each:∀i,∃a:α,i < l→good a∧∀j,j < s→W.cell? (x.add (s*i+j))=some (c a j):=by
    intro i;by_cases ae:i < l
    · obtain⟨cs',h1,h2⟩:=hi i (by omega);obtain⟨a,hg,rfl⟩:=ai _ _ _ h2;obtain⟨_,_,aj⟩:=World.cells?_some h1;refine⟨a,fun _=>⟨hg,fun j hj=>?_⟩⟩;have h3:=aj j (by rw[hc];exact hj);rw[Go.Deep.add_add,hc]at h3;rw[Ym s i,h3,Xg,Xh hj];rfl
    · exact⟨d0,fun h=>absurd h ae⟩
   obtain⟨f,hf⟩:=Classical.axiomOfChoice each;have af:((List.range l).map f).length=l:=(by simp);refine⟨⟨some x,l,m⟩,(List.range l).map f,hcs,af.symm,fun a ha=>?_,?_⟩
   · obtain⟨i,ak,rfl⟩:=Yo.1 ha;exact(hf i (List.mem_range.1 ak)).1
   rw[af];rcases Nat.eq_zero_or_pos l with h0 | h0
   · subst h0;exact .inl ⟨⟨_,_,rfl,fun h=>by cases h⟩,rfl⟩
   obtain⟨b,off,spot⟩:=x;have ag:=(hf 0 h0).2 0 ah;have hspot:spot=none:=(by simpa[Addr.add]using World.cell?_spot ag);subst hspot;have hb:b < W.heap.size:=iG (show W.cell? ⟨b,off,none⟩=some _ by simpa[Addr.add]using ag);refine .inr ⟨b,off,m,rfl,hl,h0,by omega,hb,fun i ae j hj=>?_⟩;have h1:=(hf i ae).2 j hj;rw[show(Addr.add ⟨b,off,none⟩ (s*i+j))=⟨b,off+s*i+j,none⟩by unfold Addr.add;simp[Nat.add_assoc]]at h1;rw[h1];congr 2;simp[ae]
theorem OX{n:Nat}{cs:List Value}{x:DataW H×List MemPlace}(h:DataW.trod enc Tryz.prog W 0 (fun _=>true) true n 5 cs=some x):∃a:UInt8,True∧cs=(List.range 1).map (fun _=>vB a):=by
 obtain⟨z,rfl,_,e3⟩:=DataW.trod_int Tryz.underlying5 h;exact⟨UInt8.ofNat z.toNat,trivial,by rw[QB e3];rfl⟩
theorem Nb{n:Nat}{cs:List Value}{x:DataW H×List MemPlace}(h:DataW.trod enc Tryz.prog W 0 (fun _=>true) true n 3 cs=some x):∃a:Int,bQ a∧cs=(List.range 1).map (fun _=>.int .i64 a):=by
 obtain⟨z,rfl,_,e3⟩:=DataW.trod_int Tryz.underlying3 h;exact⟨z,Kq e3,rfl⟩
theorem KZ{n:Nat}{cs:List Value}{x:DataW H×List MemPlace}(h:DataW.trod enc Tryz.prog W 0 (fun _=>true) true n 142 cs=some x):
 ∃(u:Int) (hd:Hd) (b:List UInt8),cs=[.int .i64 u,hd.v]∧bQ u∧SlW 1 W hd.v b.length (fun i _=>vB (b.getD i 0)):=by
 obtain⟨xs,m,rfl,_,hlen,ae,hf⟩:=DataW.trod_struct Tryz.underlying142 h;rw[show Tryz.prog.cellsOf 142=2 by kernel_rfl]at hlen;obtain⟨u,eu,wu⟩:=dG ae hf 0 0 rfl rfl rfl;obtain⟨_,h1⟩:=dZ ae hf 1 1 1 130 rfl rfl rfl (by kernel_rfl);obtain⟨hd,b,e1,_,_,hs⟩:=iO (c:=fun(a:UInt8) (_:Nat)=>vB a) (0:UInt8) Tryz.underlying130 (by kernel_rfl) (by decide) (fun n cs x h=>OX h) h1;have e1:=drop_one e1;refine⟨u,hd,b,?_,wu,hs⟩;apply List.ext_getElem?;intro i
 match i with
 | 0=>exact eu
 | 1=>exact e1
 | i+2=>rw[List.getElem?_eq_none (by omega)];rfl
theorem SH{n:Nat}{cs:List Value}{x:DataW H×List MemPlace}(h:DataW.trod enc Tryz.prog W 0 (fun _=>true) true n 75 cs=some x):∃a:Chg,ChW a∧cs=(List.range 5).map (chC a):=by
 obtain⟨xs,m,rfl,_,hlen,ae,hf⟩:=DataW.trod_struct Tryz.underlying75 h;rw[show Tryz.prog.cellsOf 75=5 by kernel_rfl]at hlen;obtain⟨k,ek,wk⟩:=dG ae hf 0 0 rfl rfl rfl;obtain⟨d,ed,wd⟩:=dG ae hf 1 1 rfl rfl rfl;obtain⟨p,ep,wp⟩:=dG ae hf 2 2 rfl rfl rfl;obtain⟨v,ev,wv⟩:=dG ae hf 3 3 rfl rfl rfl;obtain⟨c,ec,wc⟩:=dG ae hf 4 4 rfl rfl rfl;refine⟨⟨k,d,p,v,c⟩,⟨wk,wd,wp,wv,wc⟩,lq hlen fun i hi=>?_⟩
 match i,hi with
 | 0,_=>exact ek
 | 1,_=>exact ed
 | 2,_=>exact ep
 | 3,_=>exact ev
 | 4,_=>exact ec
abbrev goodBx(W:World)(a:Bx×Hd):Prop:=BxW a.1∧SlW 1 W a.2.v a.1.b.length (fun i _=>vB (a.1.b.getD i 0))
theorem Wh{n:Nat}{cs:List Value}{x:DataW H×List MemPlace}(h:DataW.trod enc Tryz.prog W 0 (fun _=>true) true n 153 cs=some x):∃a:Bx×Hd,goodBx W a∧cs=(List.range 4).map (bxC a.1 a.2):=by
 obtain⟨xs,m,rfl,_,hlen,ae,hf⟩:=DataW.trod_struct Tryz.underlying153 h;rw[show Tryz.prog.cellsOf 153=4 by kernel_rfl]at hlen;obtain⟨k,ek,wk⟩:=dG ae hf 0 0 rfl rfl rfl;obtain⟨d,ed,wd⟩:=dG ae hf 1 1 rfl rfl rfl;obtain⟨_,h2⟩:=dZ ae hf 2 2 2 142 rfl rfl rfl (by kernel_rfl);obtain⟨u,hd,b,e2,wu,hs⟩:=KZ h2;have q0:=congrArg (·[0]?) e2;have q1:=congrArg (·[1]?) e2;simp[List.getElem?_take,List.getElem?_drop]at q0 q1;refine⟨(⟨k,d,u,b⟩,hd),⟨⟨wk,wd,wu⟩,hs⟩,lq hlen fun i hi=>?_⟩
 match i,hi with
 | 0,_=>exact ek
 | 1,_=>exact ed
 | 2,_=>exact q0
 | 3,_=>exact q1
abbrev goodWl(W:World)(a:Wl×Hd):Prop:=WlW a.1∧SlW 1 W a.2.v a.1.b.length (fun i _=>vB (a.1.b.getD i 0))
theorem VY{n:Nat}{cs:List Value}{x:DataW H×List MemPlace}(h:DataW.trod enc Tryz.prog W 0 (fun _=>true) true n 155 cs=some x):∃a:Wl×Hd,goodWl W a∧cs=(List.range 3).map (wlC a.1 a.2):=by
 obtain⟨xs,m,rfl,_,hlen,ae,hf⟩:=DataW.trod_struct Tryz.underlying155 h;rw[show Tryz.prog.cellsOf 155=3 by kernel_rfl]at hlen;obtain⟨k,ek,wk⟩:=dG ae hf 0 0 rfl rfl rfl;obtain⟨_,h2⟩:=dZ ae hf 1 1 2 142 rfl rfl rfl (by kernel_rfl);obtain⟨u,hd,b,e2,wu,hs⟩:=KZ h2;have q0:=congrArg (·[0]?) e2;have q1:=congrArg (·[1]?) e2;simp[List.getElem?_take,List.getElem?_drop]at q0 q1;refine⟨(⟨k,u,b⟩,hd),⟨⟨wk,wu⟩,hs⟩,lq hlen fun i hi=>?_⟩
 match i,hi with
 | 0,_=>exact ek
 | 1,_=>exact q0
 | 2,_=>exact q1
theorem lC{α β:Type}(l:List (α×β))(a:α)(b:β)(i:Nat):(l.map (·.1)).getD i a=(l.getD i (a,b)).1:=by
 rw[Yd,Yd,Xg];cases l[i]? <;>rfl
abbrev Ik(W:World)(a:Cm×CmV):Prop:=CmI a.1∧CmW W a.1 a.2
abbrev cmA(a:Cm×CmV)(j:Nat):Value:=cmC a.1 a.2 j
theorem VM{n:Nat}{cs:List Value}{x:DataW H×List MemPlace}(h:DataW.trod enc Tryz.prog W 0 (fun _=>true) true n 71 cs=some x):∃a:Cm×CmV,Ik W a∧cs=(List.range 73).map (cmA a):=by
 obtain⟨xs,m,rfl,_,hlen,ae,hf⟩:=DataW.trod_struct Tryz.underlying71 h;rw[show Tryz.prog.cellsOf 71=73 by kernel_rfl]at hlen;obtain⟨f,ef,wf⟩:=dG ae hf 0 0 rfl rfl rfl;obtain⟨e,ee,we⟩:=dG ae hf 1 1 rfl rfl rfl;obtain⟨_,h2⟩:=dZ ae hf 2 2 32 35 rfl rfl rfl (by kernel_rfl);obtain⟨pr,wp,ep⟩:=wJ h2;obtain⟨au,ea,wa⟩:=dG ae hf 3 34 rfl rfl rfl;obtain⟨_,h4⟩:=dZ ae hf 4 35 1 67 rfl rfl rfl (by kernel_rfl);obtain⟨hc,lc,ec,_,gc,sc⟩:=iO ch0 Tryz.underlying67 (by kernel_rfl) (by decide) (fun n cs x h=>SH h) h4;obtain⟨_,h5⟩:=dZ ae hf 5 36 1 40 rfl rfl rfl (by kernel_rfl);obtain⟨hp,lp,af,_,gp,sp⟩:=iO (c:=fun(a:Int) (_:Nat)=>Value.int .i64 a) (0:Int) Tryz.underlying40 (by kernel_rfl) (by decide) (fun n cs x h=>Nb h) h5;obtain⟨_,h6⟩:=dZ ae hf 6 37 1 68 rfl rfl rfl (by kernel_rfl)
 obtain⟨hb,lb,eb,_,gb,sb⟩:=iO (c:=fun(a:Bx×Hd)=>bxC a.1 a.2) (bx0,hd0) Tryz.underlying68 (by kernel_rfl) (by decide) (fun n cs x h=>Wh h) h6;obtain⟨_,h7⟩:=dZ ae hf 7 38 1 69 rfl rfl rfl (by kernel_rfl);obtain⟨hw,lw,ew,_,gw,sw⟩:=iO (c:=fun(a:Wl×Hd)=>wlC a.1 a.2) (wl0,hd0) Tryz.underlying69 (by kernel_rfl) (by decide) (fun n cs x h=>VY h) h7;obtain⟨_,h8⟩:=dZ ae hf 8 39 32 35 rfl rfl rfl (by kernel_rfl);obtain⟨cf,wc,aj⟩:=wJ h8;obtain⟨_,h9⟩:=dZ ae hf 9 71 2 59 rfl rfl rfl (by kernel_rfl);obtain⟨ys,n2,rfl,_,ah,ai,hg⟩:=DataW.trod_struct Tryz.underlying59 h9;obtain⟨r,er,wr⟩:=dG ai hg 0 0 rfl rfl rfl;obtain⟨g,eg,wg⟩:=dG ai hg 1 1 rfl rfl rfl;rw[Yy (by decide),List.getElem?_drop]at er eg;have ec:=drop_one ec;have af:=drop_one af;have eb:=drop_one eb;have ew:=drop_one ew
 refine⟨(⟨f,e,pr,au,lc,lp,lb.map (·.1),lw.map (·.1),cf,r,g⟩,⟨hc,hp,hb,hw⟩),⟨⟨wf,we,wa,wr,wg,wp,wc,gc,gp,fun x hx=>?_,fun x hx=>?_⟩,sc,sp,⟨fun i=>(lb.getD i (bx0,hd0)).2,?_,fun i hi=>?_⟩,fun i=>(lw.getD i (wl0,hd0)).2,?_,fun i hi=>?_⟩,lq hlen fun i hi=>?_⟩
 · obtain⟨a,ha,rfl⟩:=Yo.1 hx;exact(gb a ha).1
 · obtain⟨a,ha,rfl⟩:=Yo.1 hx;exact(gw a ha).1
 · show SlW 4 W hb.v (lb.map (·.1)).length _;rw[Yk];exact sb.congr fun i hi j hj=>by rw[lC lb bx0 hd0]
 · have ag:i < lb.length:=(by simpa using hi);show SlW 1 W _ ((lb.map (·.1)).getD i bx0).b.length (fun j _=>vB (((lb.map (·.1)).getD i bx0).b.getD j 0));rw[lC lb bx0 hd0];exact(gb _ (aK ag)).2
 · show SlW 3 W hw.v (lw.map (·.1)).length _;rw[Yk];exact sw.congr fun i hi j hj=>by rw[lC lw wl0 hd0]
 · have ag:i < lw.length:=(by simpa using hi);show SlW 1 W _ ((lw.map (·.1)).getD i wl0).b.length (fun j _=>vB (((lw.map (·.1)).getD i wl0).b.getD j 0));rw[lC lw wl0 hd0];exact(gw _ (aK ag)).2
 · unfold cmA cmC dgC;by_cases q0:i=0
   · rw[if_pos q0,q0];exact ef
   rw[if_neg q0];by_cases q1:i=1
   · rw[if_pos q1,q1];exact ee
   rw[if_neg q1];by_cases q2:i < 34
   · rw[if_pos q2];have h:=ep (i - 2) (by omega);rw[Yy (by omega),List.getElem?_drop,show 2+(i - 2)=i by omega]at h;exact h
   rw[if_neg q2];by_cases q3:i=34
   · rw[if_pos q3,q3];exact ea
   rw[if_neg q3];by_cases q4:i=35
   · rw[if_pos q4,q4];exact ec
   rw[if_neg q4];by_cases q5:i=36
   · rw[if_pos q5,q5];exact af
   rw[if_neg q5];by_cases q6:i=37
   · rw[if_pos q6,q6];exact eb
   rw[if_neg q6];by_cases q7:i=38
   · rw[if_pos q7,q7];exact ew
   rw[if_neg q7];by_cases q8:i < 71
   · rw[if_pos q8];have h:=aj (i - 39) (by omega);rw[Yy (by omega),List.getElem?_drop,show 39+(i - 39)=i by omega]at h;exact h
   rw[if_neg q8];by_cases q9:i=71
   · rw[if_pos q9,q9];exact er
   rw[if_neg q9];obtain rfl:i=72:=(by omega);exact eg
structure Fo where
 i:Int
 d:Dg
def fo0:Fo:=⟨0,dA⟩
def foC(a:Fo)(j:Nat):Value:=if j=0 then .int .i64 a.i else dgC a.d (j - 1)
structure Ow where
 d:Int
 p:Int
def ow0:Ow:=⟨0,0⟩
def owC(a:Ow)(j:Nat):Value:=match j with | 0=>.int .i64 a.d | _=>.int .i64 a.p
abbrev kP(a:Fo):Prop:=bQ a.i∧a.d.length=32
theorem Wu{n:Nat}{cs:List Value}{x:DataW H×List MemPlace}(h:DataW.trod enc Tryz.prog W 0 (fun _=>true) true n 45 cs=some x):∃a:Fo,kP a∧cs=(List.range 33).map (foC a):=by
 obtain⟨xs,m,rfl,_,hlen,ae,hf⟩:=DataW.trod_struct Tryz.underlying45 h;rw[show Tryz.prog.cellsOf 45=33 by kernel_rfl]at hlen;obtain⟨k,ek,wk⟩:=dG ae hf 0 0 rfl rfl rfl;obtain⟨_,h2⟩:=dZ ae hf 1 1 32 35 rfl rfl rfl (by kernel_rfl);obtain⟨d,wd,ed⟩:=wJ h2;refine⟨⟨k,d⟩,⟨wk,wd⟩,lq hlen fun i hi=>?_⟩;unfold foC dgC;by_cases q0:i=0
 · rw[if_pos q0,q0];exact ek
 rw[if_neg q0];have h:=ed (i - 1) (by omega);rw[Yy (by omega),List.getElem?_drop,show 1+(i - 1)=i by omega]at h;exact h
abbrev Au(a:Ow):Prop:=bQ a.d∧bQ a.p
theorem WJ{n:Nat}{cs:List Value}{x:DataW H×List MemPlace}(h:DataW.trod enc Tryz.prog W 0 (fun _=>true) true n 77 cs=some x):∃a:Ow,Au a∧cs=(List.range 2).map (owC a):=by
 obtain⟨xs,m,rfl,_,hlen,ae,hf⟩:=DataW.trod_struct Tryz.underlying77 h;rw[show Tryz.prog.cellsOf 77=2 by kernel_rfl]at hlen;obtain⟨k,ek,wk⟩:=dG ae hf 0 0 rfl rfl rfl;obtain⟨d,ed,wd⟩:=dG ae hf 1 1 rfl rfl rfl;refine⟨⟨k,d⟩,⟨wk,wd⟩,lq hlen fun i hi=>?_⟩
 match i,hi with
 | 0,_=>exact ek
 | 1,_=>exact ed
theorem Qj{v:Value}{d:DataW H}{p:List MemPlace}{base:Nat}
 (af:Value.okWide Tryz.prog W .any base 31 v) (hj:DataW.Trod enc Tryz.prog W 0 (fun _=>true) true 31 v d p):
 ∃(f:Nat→Value) (hf ho hc:Hd) (fs:List Fo) (os:List Ow) (cl:List (Cm×CmV)),v=.agg (ah 8 f)∧f 0=hf.v∧f 1=ho.v∧f 2=hc.v∧
  (∀a∈fs,kP a)∧SlW 33 W hf.v fs.length (fun i=>foC (fs.getD i fo0))∧(∀a∈os,Au a)∧SlW 2 W ho.v os.length (fun i=>owC (os.getD i ow0))∧
  (∀a∈cl,Ik W a)∧SlW 73 W hc.v cl.length (fun i=>cmA (cl.getD i (cm0,cv0))):=by
 obtain⟨cs,rfl,hs⟩:=okWide_struct Tryz.underlying31 af;obtain⟨fuel,ag⟩:=hj;obtain⟨xs,m,_,_,hlen,ae,hf⟩:=DataW.trod_struct Tryz.underlying31 ag;rw[show Tryz.prog.cellsOf 31=8 by kernel_rfl]at hlen;obtain⟨_,h0⟩:=dZ ae hf 0 0 1 22 rfl rfl rfl (by kernel_rfl);obtain⟨q0,l0,e0,_,g0,s0⟩:=iO fo0 Tryz.underlying22 (by kernel_rfl) (by decide) (fun n cs x h=>Wu h) h0;obtain⟨_,h1⟩:=dZ ae hf 1 1 1 23 rfl rfl rfl (by kernel_rfl);obtain⟨q1,l1,e1,_,g1,s1⟩:=iO ow0 Tryz.underlying23 (by kernel_rfl) (by decide) (fun n cs x h=>WJ h) h1;obtain⟨_,h2⟩:=dZ ae hf 2 2 1 24 rfl rfl rfl (by kernel_rfl);obtain⟨q2,l2,e2,_,g2,s2⟩:=iO (c:=cmA) (cm0,cv0) Tryz.underlying24 (by kernel_rfl) (by decide) (fun n cs x h=>VM h) h2;have e0:=drop_one e0;have e1:=drop_one e1;have e2:=drop_one e2
 have hl:cs.size=8:=by
  have :(Value.agg cs).cells.toList.length=8:=hlen;simpa[Value.cells]using this
 refine⟨fun i=>cs.getD i undef,q0,q1,q2,l0,l1,l2,?_,?_,?_,?_,g0,s0,g1,s1,g2,s2⟩
 · congr 1;apply Array.ext
   · rw[bz,hl]
   · intro i h1 h2;simp[ah,h1]
 · simp[Value.cells]at e0;simp[e0]
 · simp[Value.cells]at e1;simp[e1]
 · simp[Value.cells]at e2;simp[e2]
end
end Go.Proofs.YtfddbnmfllgifaaGreatDoor
namespace Go.Proofs.YtfddbnmfllgifaaGreatDoor
open Go.RowKit Cod Top
def Ph(w w':World)(P:Prop)(e:Ending):Prop:=∃b,e=.returned (.bool b)∧Below w.heap.size w w'∧(b=true→P)
theorem Lp(a:Option Addr)(n k:Nat)(w:World):Calls Tryz.prog 60 #[.slice a n k] w fun e w'=>e=.returned (.bool (decide ((n:Int)≤10)))∧w=w':=by
 go_in;go_wp2_with fail;go_ret;exact⟨by simp,rfl⟩
theorem Ot(c:Cm)(v:CmV)(w:World)(hc:CmW w c v):
 Calls Tryz.prog 30 #[.agg (ah 73 (cmC c v))] w fun e w'=>Ph w w' (lT c) e:=by
 obtain⟨⟨ca,cn,ck⟩,⟨pa,pn,pk⟩,⟨ba,bn,bk⟩,⟨wa,wn,wk⟩⟩:=v;obtain⟨aB,aC,⟨us,aj,aF⟩,aJ,ak,aG⟩:=hc;obtain rfl:cn=c.chs.length:=(by obtain⟨a,k,e⟩:=aB.slice;cases e;rfl);obtain rfl:pn=c.pth.length:=(by obtain⟨a,k,e⟩:=aC.slice;cases e;rfl);obtain rfl:bn=c.bxs.length:=(by obtain⟨a,k,e⟩:=aj.slice;cases e;rfl);obtain rfl:wn=c.wls.length:=(by obtain⟨a,k,e⟩:=ak.slice;cases e;rfl);have X0:=zh aj;have W0:=zh ak;have XB:Hid (∀k,k < c.bxs.length→∃a q,(us k).v=.slice a (c.bxs.getD k bx0).b.length q):=zh (fun k hk=>(aF k hk).slice);have WB:Hid (∀k,k < c.wls.length→∃a q,(aJ k).v=.slice a (c.wls.getD k wl0).b.length q):=zh (fun k hk=>(aG k hk).slice);have M3:=zh aj.lQ;have M4:=zh ak.lQ;clear aB aC aj aF ak aG;obtain⟨n1,ay⟩:=zg c.chs.length;obtain⟨n2,az⟩:=zg c.pth.length;obtain⟨n3,au⟩:=zg c.bxs.length;obtain⟨n4,ax⟩:=zg c.wls.length;have L1:=zh ay;have L2:=zh az;have L3:=zh au;have L4:=zh ax
 obtain⟨V,hV⟩:∃y:CmV,(⟨⟨ca,c.chs.length,ck⟩,⟨pa,c.pth.length,pk⟩,⟨ba,c.bxs.length,bk⟩,⟨wa,c.wls.length,wk⟩⟩:CmV)=y:=⟨_,rfl⟩;have HV:Hid (V.ch.v=.slice ca n1 ck∧V.pt.v=.slice pa n2 pk∧V.bx.v=.slice ba n3 bk∧V.wl.v=.slice wa n4 wk):=zh (by subst hV;rw[←ay,←az,←au,←ax];exact⟨rfl,rfl,rfl,rfl⟩);rw[hV];rw[au]at X0 XB M3;rw[ax]at W0 WB M4;clear ay az au ax hV;go_in;have B0:=zh (Yb w.heap.size w);go_upto_region 1 with fail;obtain⟨w1,aH,b1,z1,Z1⟩:=zW w 71 73 (cmC c V);rw[aH];(try rw[z1]);have B1:=zD B0 b1;clear b1 aH z1 B0;(try dsimp only[Act.put]);have aN:w1.cell? ⟨w.heap.size,37,none⟩=some (.slice ba n3 bk):=(by rw[←HV.2.2.1];exact Z1.cell (i:=37) (by decide));have aO:w1.cell? ⟨w.heap.size,38,none⟩=some (.slice wa n4 wk):=(by rw[←HV.2.2.2];exact Z1.cell (i:=38) (by decide));have aP:w1.cell? ⟨w.heap.size,35,none⟩=some (.slice ca n1 ck):=by rw[←HV.1];exact Z1.cell (i:=35) (by decide)
 have aQ:w1.cell? ⟨w.heap.size,36,none⟩=some (.slice pa n2 pk):=(by rw[←HV.2.1];exact Z1.cell (i:=36) (by decide));go_wp2_with fail;go_loopg [3] n3 (fun g s3 wx=>w1=wx∧∃k:Nat,k+g=n3∧s3=.int .i64 (k:Int)∧Hid (∀j,j < k→(c.bxs.getD j bx0).b.length≤200));case atStart=>exact⟨rfl,0,by omega,rfl,zh (fun j hj=>absurd hj (Nat.not_lt_zero j))⟩
 case round=>
  obtain⟨rfl,k,hk,rfl,hP⟩:=hrel;have q0:=Ye k;by_cases ae:k < n3
  · obtain⟨d0,d1,q1,-⟩:=zl ae;have ag:=zh ae;have HK:=zh hk;obtain⟨b,off,rfl,af,hb,ai⟩:=SlW.aI X0.o ae;obtain⟨ya,yk,hy⟩:=XB.o k ae
    have xb:w1.cell? ⟨b,off+k*4+3,none⟩=some (.slice ya (c.bxs.getD k bx0).b.length yk):=by
     have h:=(B1.cell (p:=⟨b,off+4*k+3,none⟩) hb).trans (ai k ae 3 (by decide));rw[Ym 4 k]at h;rw[h,←hy];rfl
    obtain⟨q,hq⟩:=zg ((c.bxs.getD k bx0).b.length);rw[hq]at xb;have HQ:=zh hq;have aK:=zw  ((k:Int)+1) (by have :=M3.o;omega);clear af hb ai ae hy hq hk;by_cases h2:200 < q
    · have e0:decide ((200:Int) < (q:Int))=true:=zt (by omega);have e1:decide (200 < q)=true:=zt h2;clear h2;go_wp2_with fail;go_ret;exact⟨false,rfl,B1.o,fun h=>by cases h⟩
    · have e0:decide ((200:Int) < (q:Int))=false:=zT (by omega);have e1:decide (200 < q)=false:=zT h2
      have HP:Hid (∀j,j < k+1→(c.bxs.getD j bx0).b.length≤200):=zh (fun j hj=>by
       by_cases aA:j < k
       · exact hP.o j aA
       · obtain rfl:j=k:=by omega
         rw[HQ.o];omega)
      clear h2 hP;go_wp2_with fail;go_roundg(n3 - (k+1));case measure=>have :=ag.o;have :=HK.o;omega
      case rel=>
       go_light;exact⟨rfl,k+1,by have :=ag.o;omega,by go_num,HP⟩
  · obtain rfl:k=n3:=(by omega);have d0:decide ((k:Int) < (k:Int))=false:=zT (by omega);have d1:decide (k < k)=false:=zT (by omega);have P3:=hP;clear ae hk hP q0;go_wp2_with fail;clear d0 d1;go_loopg [4] n4 (fun g s4 wx=>w1=wx∧∃k:Nat,k+g=n4∧s4=.int .i64 (k:Int)∧Hid (∀j,j < k→(c.wls.getD j wl0).b.length≤200));case atStart=>exact⟨rfl,0,by omega,rfl,zh (fun j hj=>absurd hj (Nat.not_lt_zero j))⟩
    case round=>
     obtain⟨rfl,k4,hk,rfl,hP⟩:=hrel;have q0:=Ye k4;by_cases ae:k4 < n4
     · obtain⟨d0,d1,q1,-⟩:=zl ae;have ag:=zh ae;have HK:=zh hk;obtain⟨b,off,rfl,af,hb,ai⟩:=SlW.aI W0.o ae;obtain⟨ya,yk,hy⟩:=WB.o k4 ae
       have xb:w1.cell? ⟨b,off+k4*3+2,none⟩=some (.slice ya (c.wls.getD k4 wl0).b.length yk):=by
        have h:=(B1.cell (p:=⟨b,off+3*k4+2,none⟩) hb).trans (ai k4 ae 2 (by decide));rw[Ym 3 k4]at h;rw[h,←hy];rfl
       obtain⟨q,hq⟩:=zg ((c.wls.getD k4 wl0).b.length);rw[hq]at xb;have HQ:=zh hq;have aK:=zw  ((k4:Int)+1) (by have :=M4.o;omega);clear af hb ai ae hy hq hk;by_cases h2:200 < q
       · have e0:decide ((200:Int) < (q:Int))=true:=zt (by omega);have e1:decide (200 < q)=true:=zt h2;clear h2;go_wp2_with fail;go_ret;exact⟨false,rfl,B1.o,fun h=>by cases h⟩
       · have e0:decide ((200:Int) < (q:Int))=false:=zT (by omega);have e1:decide (200 < q)=false:=zT h2
         have HP:Hid (∀j,j < k4+1→(c.wls.getD j wl0).b.length≤200):=zh (fun j hj=>by
          by_cases aA:j < k4
          · exact hP.o j aA
          · obtain rfl:j=k4:=by omega
            rw[HQ.o];omega)
         clear h2 hP;go_wp2_with fail;go_roundg(n4 - (k4+1));case measure=>have :=ag.o;have :=HK.o;omega
         case rel=>
          go_light;exact⟨rfl,k4+1,by have :=ag.o;omega,by go_num,HP⟩
     · obtain rfl:k4=n4:=(by omega);have d0:decide ((k4:Int) < (k4:Int))=false:=zT (by omega);have d1:decide (k4 < k4)=false:=zT (by omega);have P4:=hP;clear ae hk hP q0;have FC:=zh (fun W=>Lp ca n1 ck W);go_wp2_with fail;refine(FC.o _).mono ?_;rintro e wq ⟨rfl,rfl⟩;clear d0 d1;by_cases h1:n1≤10;rotate_left
       · have e0:decide ((n1:Int)≤10)=false:=zT (by omega);have e1:decide (n1≤10)=false:=zT h1;clear h1;go_wp2_with fail;go_ret;exact⟨false,by simp,B1.o,fun h=>by cases h⟩
       have e0:decide ((n1:Int)≤10)=true:=zt (by omega);have e1:decide (n1≤10)=true:=zt h1;by_cases h2:n2≤12;rotate_left
       · have f0:decide ((n2:Int)≤12)=false:=zT (by omega);have f1:decide (n2≤12)=false:=zT h2;clear h1 h2;go_wp2_with fail;go_ret;exact⟨false,by simp,B1.o,fun h=>by cases h⟩
       have f0:decide ((n2:Int)≤12)=true:=zt (by omega);have f1:decide (n2≤12)=true:=zt h2;by_cases h3:k≤40;rotate_left
       · have g0:decide ((k:Int)≤40)=false:=zT (by omega);have g1:decide (k≤40)=false:=zT h3;clear h1 h2 h3;go_wp2_with fail;go_ret;exact⟨false,by simp,B1.o,fun h=>by cases h⟩
       have g0:decide ((k:Int)≤40)=true:=zt (by omega);have g1:decide (k≤40)=true:=zt h3;by_cases h4:k4≤10;rotate_left
       · have j0:decide ((k4:Int)≤10)=false:=zT (by omega);have j1:decide (k4≤10)=false:=zT h4;clear h1 h2 h3 h4;go_wp2_with fail;go_ret;exact⟨false,by simp,B1.o,fun h=>by cases h⟩
       have j0:decide ((k4:Int)≤10)=true:=zt (by omega);have j1:decide (k4≤10)=true:=zt h4
       have FW:Hid (lT c):=zh ⟨by rw[L1.o];exact h1,by rw[L2.o];exact h2,by rw[L3.o];exact h3,by rw[L4.o];exact h4,fun x hx=>by
        obtain⟨i,hi,rfl⟩:=List.mem_iff_getElem.1 hx;have :=P3.o i (by rw[←L3.o];exact hi)
        rwa[Yd,Yh hi]at this,fun x hx=>by
        obtain⟨i,hi,rfl⟩:=List.mem_iff_getElem.1 hx;have :=P4.o i (by rw[←L4.o];exact hi)
        rwa[Yd,Yh hi]at this⟩
       clear h1 h2 h3 h4;go_wp2_with fail;go_ret;exact⟨true,by simp,B1.o,fun _=>FW.o⟩
structure yt(w:World)(v:Hd)(cs:List Cm)(vs:Nat→CmV):Prop where
 n:v.n=cs.length
 at':SlW 73 w v.v cs.length (fun i=>cmC (cs.getD i cm0) (vs i))
 each:∀i,i < cs.length→CmW w (cs.getD i cm0) (vs i)
theorem yt.below{w w':World}{v:Hd}{cs:List Cm}{vs:Nat→CmV}(h:yt w v cs vs)(b:Below w.heap.size w w'):yt w' v cs vs:=⟨h.n,h.at'.below b,fun i hi=>(h.each i hi).below b⟩
def Aj(cs:List Cm):Prop:=cs.length≤7∧∀c∈cs,lT c
theorem OU(cs:List Cm)(v:Hd)(vs:Nat→CmV)(w:World)(h:yt w v cs vs):
 Calls Tryz.prog 11 #[v.v] w fun e w'=>Ph w w' (Aj cs) e:=by
 obtain⟨a,n,k⟩:=v;obtain⟨hn,ag,ae⟩:=h;obtain rfl:n=cs.length:=hn;have A0:=zh ag;have E0:=zh ae;have M0:=zh ag.lQ;obtain⟨n,hn⟩:=zg cs.length;have HN:=zh hn;rw[hn]at A0 E0 M0;show Calls _ _ #[.slice a cs.length k] _ _;rw[hn];clear ag ae hn;go_in;have B0:=zh (Yb w.heap.size w);by_cases h7:7 < n
 · have e0:decide ((7:Int) < (n:Int))=true:=zt (by omega);have e1:decide (7 < n)=true:=zt h7;clear h7;go_wp2_with fail;go_ret;exact⟨false,rfl,B0.o,fun h=>by cases h⟩
 have e0:decide ((7:Int) < (n:Int))=false:=zT (by omega);have e1:decide (7 < n)=false:=zT h7;have H7:Hid (n≤7):=zh (by omega);clear h7;go_wp2_with fail;clear e0 e1;go_loopg [3] n (fun g s3 wx=>∃j:Nat,j+g=n∧s3=.int .i64 (j:Int)∧Hid (∀i,i < j→lT (cs.getD i cm0))∧Hid (Below w.heap.size w wx));case atStart=>exact⟨0,by omega,rfl,zh (fun i hi=>absurd hi (Nat.not_lt_zero i)),B0⟩
 case round=>
  clear B0;obtain⟨j,hj,rfl,hP,hB⟩:=hrel;obtain⟨w1,rfl⟩:=zG wr;have B1:=hB;have q0:=Ye j;by_cases af:j < n
  · obtain⟨d0,d1,q1,-⟩:=zl af;have aj:=zh af;have HJ:=zh hj;obtain⟨b,off,rfl,ah,hb,ak⟩:=SlW.aI A0.o af;have ai:Hid (∀i,i < 73→w1.cell? ⟨b,off+73*j+i,none⟩=some (cmC (cs.getD j cm0) (vs j) i)):=zh (fun i hi=>(B1.cell (p:=⟨b,off+73*j+i,none⟩) hb).trans (ak j af i hi));have FW:=zh (Ot _ _ w1 ((E0.o j af).below B1.o));obtain⟨c,hc⟩:=zg (cs.getD j cm0);obtain⟨cv,au⟩:=zg (vs j);have HC:=zh hc;rw[hc,au]at ai FW;have ax:=zw  ((j:Int)+1) (by have :=H7.o;omega);clear ah hb ak af hj hc au hB;go_wp2_with(with_reducible refine zS 16 ?_);refine zh (zE b (off+j*73) rfl YU off j (by rw[Ym]) (cmC c cv) ai.o ?_);clear ai;go_wp2_with fail;refine FW.mono ?_;rintro e w2 ⟨r,rfl,b2,hr⟩;have B2:=zD B1 b2;have HR:=zh hr;clear FW B1 b2 hr d0 d1
    cases r with
    | false=>
      go_wp2_with fail;go_ret;exact⟨false,rfl,B2.o,fun h=>by cases h⟩
    | true=>
      have HP:Hid (∀i,i < j+1→lT (cs.getD i cm0)):=zh (fun i hi=>by
       by_cases h2:i < j
       · exact hP.o i h2
       · obtain rfl:i=j:=by omega
         rw[HC.o];exact HR.o rfl)
      clear hP HR;go_wp2_with fail;go_roundg(n - (j+1));case measure=>have :=aj.o;have :=HJ.o;omega
      case rel=>
       go_light;exact⟨j+1,by have :=aj.o;omega,by go_num,HP,B2⟩
  · obtain rfl:j=n:=(by omega);have d0:decide ((j:Int) < (j:Int))=false:=zT (by omega);have d1:decide (j < j)=false:=zT (by omega);have HP:=hP;clear af hj hP q0 hB;go_wp2_with fail;go_ret;refine⟨true,rfl,B1.o,fun _=>⟨by rw[HN.o];exact H7.o,fun x hx=>?_⟩⟩;obtain⟨i,hi,rfl⟩:=List.mem_iff_getElem.1 hx;have :=HP.o i (by rw[←HN.o];exact hi);rwa[Yd,Yh hi]at this
def reC(f o c:Hd)(j:Nat):Value:=if j=0 then f.v else if j=1 then o.v else if j=2 then c.v else .slice none 0 0
theorem Vu(f o c:Hd)(j:Nat):(reC f o c j).oneCell'=true:=dh rfl (dh rfl (dh rfl rfl))
theorem PD(f o v:Hd)(cs:List Cm)(vs:Nat→CmV)(w:World)(h:yt w v cs vs):
 Calls Tryz.prog 5 #[.agg (ah 8 (reC f o v))] w fun e w'=>Ph w w' (f.n≤3∧Aj cs∧o.n≤20) e:=by
 obtain⟨fa,fn,fk⟩:=f;obtain⟨oa,n2,ok⟩:=o;obtain⟨ca,cn,ck⟩:=v;have FW:=zh (fun W (b:Below w.heap.size w W)=>OU cs ⟨ca,cn,ck⟩ vs W (h.below b));clear h;obtain⟨rf,ae⟩:=zg (reC ⟨fa,fn,fk⟩ ⟨oa,n2,ok⟩ ⟨ca,cn,ck⟩);have HR:Hid (rf 0=.slice fa fn fk∧rf 1=.slice oa n2 ok∧rf 2=.slice ca cn ck∧rf 3=.slice none 0 0∧rf 4=.slice none 0 0):=zh (by subst ae;exact⟨rfl,rfl,rfl,rfl,rfl⟩);rw[ae];clear ae;go_in;have B0:=zh (Yb w.heap.size w);go_upto_region 1 with fail;obtain⟨w1,af,b1,z1,Z1⟩:=zW w 31 8 rf;rw[af];(try rw[z1]);have B1:=zD B0 b1;clear b1 af z1 B0;have x0:w1.cell? ⟨w.heap.size,0,none⟩=some (.slice fa fn fk):=(by rw[←HR.1];exact Z1.cell (i:=0) (by decide));have x2:w1.cell? ⟨w.heap.size,2,none⟩=some (.slice ca cn ck):=(by rw[←HR.2.2.1];exact Z1.cell (i:=2) (by decide));by_cases h3:3 < fn
 · have e0:decide ((3:Int) < (fn:Int))=true:=zt (by omega);have e1:decide (3 < fn)=true:=zt h3;clear h3;go_wp2_with fail;go_ret;exact⟨false,rfl,B1.o,fun h=>by cases h⟩
 have e0:decide ((3:Int) < (fn:Int))=false:=zT (by omega);have e1:decide (3 < fn)=false:=zT h3;have H3:Hid (fn≤3):=zh (by omega);clear h3;go_wp2_with fail;refine(FW.o _ B1.o).mono ?_;rintro e w2 ⟨r,rfl,b2,hr⟩;have ag:=zh hr;clear hr FW x0 x2;have B2:=zD B1 b2;have Z2:=zh (Z1.below b2);clear b2 B1 Z1;have x3:w2.cell? ⟨w.heap.size,3,none⟩=some (.slice none 0 0):=(by rw[←HR.2.2.2.1];exact Z2.cell (i:=3) (by decide));have x4:w2.cell? ⟨w.heap.size,4,none⟩=some (.slice none 0 0):=(by rw[←HR.2.2.2.2];exact Z2.cell (i:=4) (by decide));have x1:w2.cell? ⟨w.heap.size,1,none⟩=some (.slice oa n2 ok):=by rw[←HR.2.1];exact Z2.cell (i:=1) (by decide)
 cases r with
 | false=>
   go_wp2_with fail;go_ret;exact⟨false,rfl,B2.o,fun h=>by cases h⟩
 | true=>
   by_cases h4:20 < n2
   · have f0:decide ((20:Int) < (n2:Int))=true:=zt (by omega);have f1:decide (20 < n2)=true:=zt h4;clear h4;go_wp2_with fail;go_ret;exact⟨false,rfl,B2.o,fun h=>by cases h⟩
   have f0:decide ((20:Int) < (n2:Int))=false:=zT (by omega);have f1:decide (20 < n2)=false:=zT h4;have H4:Hid (n2≤20):=zh (by omega);clear h4;go_wp2_with fail;go_loopg [3] 0 (fun g s3 wx=>w2=wx∧s3=.int .i64 0);case atStart=>exact⟨rfl,rfl⟩
   case round=>
    obtain⟨rfl,rfl⟩:=hrel;go_wp2_with fail;go_ret;exact⟨true,rfl,B2.o,fun _=>⟨H3.o,ag.o trivial,H4.o⟩⟩
end Go.Proofs.YtfddbnmfllgifaaGreatDoor
