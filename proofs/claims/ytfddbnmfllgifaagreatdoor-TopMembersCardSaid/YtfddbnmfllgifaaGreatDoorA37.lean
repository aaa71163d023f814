/- Part of TopMembers. -/
import Derived.Test.YtfddbnmfllgifaaGreatDoorA29
import Derived.Test.YtfddbnmfllgifaaGreatDoorA28
import Derived.Test.YtfddbnmfllgifaaGreatDoorA36
set_option linter.unusedVariables false
set_option linter.unusedSimpArgs false
set_option maxHeartbeats 64000000
set_option maxRecDepth 100000
namespace Go.Proofs.YtfddbnmfllgifaaGreatDoor
open Go.RowKit Cod Top
structure Sc where
 k:Int
 p:Int
 d:Dg
 l:Int
theorem Sc.ext'{a b:Sc}(h1:a.k=b.k)(h2:a.p=b.p)(h3:a.d=b.d)(h4:a.l=b.l):a=b:=by
 obtain⟨k,p,d,l⟩:=a;obtain⟨k',p',d',l'⟩:=b;simp only at h1 h2 h3 h4;subst h1 h2 h3 h4;rfl
instance :DecidableEq Sc:=fun a b=>
 if h:a.k=b.k∧a.p=b.p∧a.d=b.d∧a.l=b.l then .isTrue (Sc.ext' h.1 h.2.1 h.2.2.1 h.2.2.2)else .isFalse (fun e=>h (by subst e;exact⟨rfl,rfl,rfl,rfl⟩))
def sc0:Sc:=⟨0,0,dA,0⟩
instance :Inhabited Sc:=⟨sc0⟩
def scC(x:Sc)(j:Nat):Value:=if j=0 then .int .i64 x.k else if j=1 then .int .i64 x.p else if j < 34 then dgC x.d (j - 2)else .int .i64 x.l
theorem eG(x:Sc)(j:Nat):(scC x j).oneCell'=true:=dh rfl (dh rfl (dh rfl rfl))
structure ScW(x:Sc):Prop where
 k:bQ x.k
 p:bQ x.p
 d:x.d.length=32
 l:bQ x.l
abbrev scA(x:Sc):Value:=.agg (ah 35 (scC x))
abbrev dgA(d:Dg):Value:=.agg (ah 32 (dgC d))
abbrev DgW(d:Dg):Prop:=d.length=32
theorem mapM_some{α β:Type}{f:α→Option β}{g:α→β}:∀(l:List α),(∀x∈l,f x=some (g x))→l.mapM f=some (l.map g)
 | [],_=>rfl
 | x::l,h=>by
   rw[List.mapM_cons,h x (by simp),mapM_some l (fun y hy=>h y (by simp[hy]))];rfl
theorem qA{n a m:Nat}{g:Nat→Value}(h:a+m≤n):(((List.range n).map g).drop a).take m=(List.range m).map fun j=>g (a+j):=by
 apply List.ext_getElem?;intro i;by_cases hi:i < m
 · rw[Yy hi,List.getElem?_drop,Xg,Xh (by omega),Xg,Xh hi];rfl
 · rw[List.getElem?_eq_none (by simp;omega),List.getElem?_eq_none (by simp;omega)]
theorem Ls(n:Nat)(x:UInt8):Tryz.prog.keyLits (n+1) 5 [vB x]=some [.int .u8 (x.toNat:Int)]:=by
 have hw:(Lit.int .u8 (x.toNat:Int)).wf=true:=by
  have :x.toNat < 256:=x.toNat_lt;have e1:IntKind.u8.min=0:=rfl;have e2:IntKind.u8.max=255:=rfl;unfold Lit.wf;simp only[e1,e2,Bool.and_eq_true,decide_eq_true_eq];omega
 unfold Program.keyLits;simp[Tryz.underlying5,hw]
theorem wL(n:Nat){z:Int}(h:bQ z):Tryz.prog.keyLits (n+1) 3 [.int .i64 z]=some [.int .i64 z]:=by
 have hw:(Lit.int .i64 z).wf=true:=by
  unfold bQ at h;have e1:IntKind.i64.min= -9223372036854775808:=rfl;have e2:IntKind.i64.max=9223372036854775807:=rfl;unfold Lit.wf;simp only[e1,e2,Bool.and_eq_true,decide_eq_true_eq];omega
 unfold Program.keyLits;simp[Tryz.underlying3,hw]
theorem uV:Tryz.prog.cellsOf 35=32:=by kernel_rfl
theorem Iw:Tryz.prog.cellsOf 5=1:=by kernel_rfl
theorem Oi:Tryz.prog.cellsOf 3=1:=by kernel_rfl
theorem Dz:Tryz.prog.cellsOf 37=35:=by kernel_rfl
def SN(d:Dg):List Lit:=((List.range 32).map fun j=>[Lit.int .u8 ((d.getD j 0).toNat:Int)]).flatten
theorem JU(n:Nat)(d:Dg)(g:Nat→Value)(hg:∀j,j < 32→g j=dgC d j):Tryz.prog.keyLits (n+2) 35 ((List.range 32).map g)=some (SN d):=by
 unfold Program.keyLits;rw[Tryz.underlying35];dsimp only;rw[uV,Iw,if_pos (by simp),mapM_some (g:=fun j=>[Lit.int .u8 ((d.getD j 0).toNat:Int)])]
 · rfl
 · intro i hi;have hi:=List.mem_range.1 hi;rw[Nat.mul_one,qA (by omega)];show Tryz.prog.keyLits (n+1) 5 [g i]=_;rw[hg i hi];exact Ls n _
theorem types_size:∃n,Tryz.prog.types.size+1=n+3:=⟨Tryz.prog.types.size - 2,by
 have h:decide (2≤Tryz.prog.types.size)=true:=(by kernel_rfl);have :=of_decide_eq_true h
 omega⟩
theorem Ea:laidOutB Tryz.prog=true:=by kernel_rfl
theorem oC:Tryz.prog.types.size+2≤10000:=by
 have h:decide (Tryz.prog.types.size+2≤10000)=true:=(by kernel_rfl);exact of_decide_eq_true h
theorem Vp:WideMaps.KeyLaw Tryz.prog 35:=deep_law_gate Ea oC (by
 have h:decide (35 < Tryz.prog.types.size)=true:=by kernel_rfl
 exact of_decide_eq_true h) (by kernel_rfl) (by kernel_rfl)
theorem Qv:WideMaps.KeyLaw Tryz.prog 37:=deep_law_gate Ea oC (by
 have h:decide (37 < Tryz.prog.types.size)=true:=by kernel_rfl
 exact of_decide_eq_true h) (by kernel_rfl) (by kernel_rfl)
theorem vN(d:Dg):keyOf Tryz.prog 35 (dgA d)=some (.string (keyBytes (SN d))):=by
 obtain⟨n,hn⟩:=types_size;unfold keyOf;rw[Tryz.underlying35];dsimp only;have e1:Tryz.prog.keyType 35=true:=by kernel_rfl
 have e2:(dgA d).formed Tryz.prog 35=true:=by
  unfold Value.formed;rw[Tryz.underlying35,uV];simp[bz]
 rw[e1,e2,hn];have e3:(dgA d).cells.toList=(List.range 32).map (dgC d):=rfl;rw[e3,show n+3=(n+1)+2 from rfl,JU (n+1) d (dgC d) (fun _ _=>rfl)];rfl
def YN(x:Sc):List Lit:=[.int .i64 x.k]++([.int .i64 x.p]++(SN x.d++[.int .i64 x.l]))
theorem vM{x:Sc}(h:ScW x):keyOf Tryz.prog 37 (scA x)=some (.string (keyBytes (YN x))):=by
 obtain⟨n,hn⟩:=types_size;unfold keyOf;rw[Tryz.underlying37];dsimp only;have e1:Tryz.prog.keyType 37=true:=by kernel_rfl
 have e2:(scA x).formed Tryz.prog 37=true:=by
  unfold Value.formed;rw[Tryz.underlying37,Dz];simp[bz]
 rw[e1,e2,hn];have e3:(scA x).cells.toList=(List.range 35).map (scC x):=rfl;have f0:=wL (n+1) h.k;have f1:=wL (n+1) h.p
 have f2:=JU n x.d (fun j=>scC x (2+j)) (fun j hj=>by
  show(if 2+j=0 then _ else if 2+j=1 then _ else if 2+j < 34 then dgC x.d (2+j - 2)else _)=_
  rw[if_neg (by omega),if_neg (by omega),if_pos (by omega),show 2+j - 2=j by omega])
 have f3:=wL (n+1) h.l;rw[e3,show n+3=(n+2)+1 from rfl];unfold Program.keyLits;rw[Tryz.underlying37];dsimp only;rw[Dz];simp only[List.mapM_cons,List.mapM_nil,Oi,uV];rw[qA (by omega),qA (by omega),qA (by omega),qA (by omega)];have g0:Tryz.prog.keyLits (n+2) 3 (List.map (fun j=>scC x (0+j)) (List.range 1))=some [Lit.int .i64 x.k]:=f0;have g1:Tryz.prog.keyLits (n+2) 3 (List.map (fun j=>scC x (1+j)) (List.range 1))=some [Lit.int .i64 x.p]:=f1;have g3:Tryz.prog.keyLits (n+2) 3 (List.map (fun j=>scC x (34+j)) (List.range 1))=some [Lit.int .i64 x.l]:=f3;rw[g0,g1,f2,g3];simp[YN]
theorem JF{a b:Dg}(ha:DgW a)(hb:DgW b)(h:∀j,j < 32→dgC a j=dgC b j):a=b:=by
 unfold DgW at ha hb;apply List.ext_getElem?;intro i;by_cases hi:i < 32
 · have h2:=h i hi;unfold dgC at h2;have h3:((a.getD i 0).toNat:Int)=((b.getD i 0).toNat:Int):=(by injection h2);have h4:a.getD i 0=b.getD i 0:=UInt8.toNat_inj.1 (by omega);rw[Yd,Yd,Yh (by omega),Yh (by omega)]at h4;rw[Yh (by omega),Yh (by omega)];exact congrArg some h4
 · rw[List.getElem?_eq_none (by omega),List.getElem?_eq_none (by omega)]
theorem Fq{n:Nat}{f g:Nat→Value}(h:ah n f=ah n g):∀j,j < n→f j=g j:=by
 intro j hj;have h2:=congrArg (fun a=>a[j]?) h;simp only[fO hj]at h2;exact Yx h2
theorem KY{a b:Dg}(ha:DgW a)(hb:DgW b)(h:dgA a=dgA b):a=b:=JF ha hb (Fq (by injection h))
theorem Lj{a b:Sc}(ha:ScW a)(hb:ScW b)(h:scA a=scA b):a=b:=by
 have h2:=Fq (f:=scC a) (g:=scC b) (by injection h);have e0:=h2 0 (by decide);have e1:=h2 1 (by decide);have e3:=h2 34 (by decide);have i0:a.k=b.k:=(by injection e0);have i1:a.p=b.p:=(by injection e1);have i3:a.l=b.l:=(by injection e3);refine Sc.ext' i0 i1 (JF ha.d hb.d fun j hj=>?_) i3;have h3:=h2 (2+j) (by omega);unfold scC at h3;rw[if_neg (by omega),if_neg (by omega),if_pos (by omega),if_neg (by omega),if_neg (by omega),if_pos (by omega),show 2+j - 2=j by omega]at h3;exact h3
theorem kyD:KM.Ky Tryz.prog 35 dgA DgW:=KM.RI Vp (fun ha hb h=>KY ha hb h) (fun a _=>⟨_,vN a⟩)
theorem kyS:KM.Ky Tryz.prog 37 scA ScW:=KM.RI Qv (fun ha hb h=>Lj ha hb h) (fun a h=>⟨_,vM h⟩)
theorem le_of2{n:Nat}(h:n+2≤10000):n+1≤10000:=by omega
theorem yZ{P:Program}(hs:P.types.size+2≤10000){k:TypeId}(hk:P.keyType k=true)(hwide:(match P.underlying k with | some (.array _ _) | some (.struct _)=>true | _=>false)=true){x y:Value}{lx ly:Lit}(hx:keyOf P k x=some lx)(hy:keyOf P k y=some ly)(w:World):
 ∃r:Bool,(Op.equal k x y).run P w=.ok r w∧(r=true↔lx=ly):=run_equal_deep w (m:=P.types.size+1) (le_of2 hs) hk hwide hx hy
theorem Ee{a b:Dg}(ha:DgW a)(hb:DgW b)(w:World):(Op.equal 35 (dgA a) (dgA b)).run Tryz.prog w=.ok (decide (a=b)) w:=by
 obtain⟨r,h1,h2⟩:=yZ oC (k:=35) (by kernel_rfl) (by kernel_rfl) (vN a) (vN b) w
 have hr:r=decide (a=b):=by
  rw[Bool.eq_iff_iff,h2,decide_eq_true_eq];constructor
  · intro h;exact KY ha hb (Vp.inj (vN a) (h▸vN b))
  · intro h;subst h;rfl
 rw[h1,hr]
theorem Dt{a b:Sc}(ha:ScW a)(hb:ScW b)(w:World):(Op.equal 37 (scA a) (scA b)).run Tryz.prog w=.ok (decide (a=b)) w:=by
 obtain⟨r,h1,h2⟩:=yZ oC (k:=37) (by kernel_rfl) (by kernel_rfl) (vM ha) (vM hb) w
 have hr:r=decide (a=b):=by
  rw[Bool.eq_iff_iff,h2,decide_eq_true_eq];constructor
  · intro h;exact Lj ha hb (Qv.inj (vM ha) (h▸vM hb))
  · intro h;subst h;rfl
 rw[h1,hr]
theorem TJ{a b:Sc}(ha:ScW a)(hb:ScW b)(w:World):(binOp .eql 37 (scA a) (scA b)).run Tryz.prog w=.ok (.bool (decide (a=b))) w:=by
 rw[run_eql_struct,show(Op.equalIn 10000 37 (.agg (ah 35 (scC a))) (.agg (ah 35 (scC b)))).run Tryz.prog w=_ from Dt ha hb w];rfl
theorem neq_sc{a b:Sc}(ha:ScW a)(hb:ScW b)(w:World):(binOp .neq 37 (scA a) (scA b)).run Tryz.prog w=.ok (.bool (!decide (a=b))) w:=by
 rw[run_neq_struct,show(Op.equalIn 10000 37 (.agg (ah 35 (scC a))) (.agg (ah 35 (scC b)))).run Tryz.prog w=_ from Dt ha hb w];rfl
theorem vH(op:BinOp)(x y:Operand)(a b:Sc)(w:World):(eqGuard op 37 x y (scA a) (scA b)).run Tryz.prog w=.ok () w:=run_eqGuard_agg w op _ x y _ _ (by kernel_rfl)
theorem Hu{a b:Dg}(ha:DgW a)(hb:DgW b)(w:World):(binOp .eql 35 (dgA a) (dgA b)).run Tryz.prog w=.ok (.bool (decide (a=b))) w:=by
 rw[run_eql_struct,show(Op.equalIn 10000 35 (.agg (ah 32 (dgC a))) (.agg (ah 32 (dgC b)))).run Tryz.prog w=_ from Ee ha hb w];rfl
theorem Bq{a b:Dg}(ha:DgW a)(hb:DgW b)(w:World):(binOp .neq 35 (dgA a) (dgA b)).run Tryz.prog w=.ok (.bool (!decide (a=b))) w:=by
 rw[run_neq_struct,show(Op.equalIn 10000 35 (.agg (ah 32 (dgC a))) (.agg (ah 32 (dgC b)))).run Tryz.prog w=_ from Ee ha hb w];rfl
theorem jK(op:BinOp)(x y:Operand)(a b:Dg)(w:World):(eqGuard op 35 x y (dgA a) (dgA b)).run Tryz.prog w=.ok () w:=run_eqGuard_agg w op _ x y _ _ (by kernel_rfl)
end Go.Proofs.YtfddbnmfllgifaaGreatDoor
namespace Go.Proofs.YtfddbnmfllgifaaGreatDoor
open Go.RowKit Cod Top Go.Lib
theorem Ap:(Tryz.prog.info? 75).map (fun i=>(i.zero,i.size,i.bytes))=some (some (.agg #[.int .i64 0,.int .i64 0,.int .i64 0,.int .i64 0,.int .i64 0]),5,40):=by kernel_rfl
theorem uo{α:Type}{c:α→Nat→Value}(d:α)(h1:∀u j,(c u j).oneCell'=true)(l:List α)(a:Option Addr)(k:Nat)(w:World)(hs:aN 5 w (.slice a l.length k) l.length (fun i=>c (l.getD i d)))(hn:l.length≤1000000):
 Calls Tryz.prog 182 #[.slice a l.length k] w fun e w'=>∃u,e=.returned u∧ax 75 5 c w' w.heap.size u l∧Below w.heap.size w w':=by
 have au:∀(w:World) (a:Option Addr) (n c n' c':Nat),(binOp .eql 67 (.slice a n c) (.slice none n' c')).run Tryz.prog w=.ok (.bool a.isNone) w:=fun w a n c n' c'=>Go.Lib.run_eql_slice_nil w _ _ a n c n' c' Tryz.underlying67
 cases a with
 | none=>
   have hl:l=[]:=by
    rcases hs with⟨_,h⟩ | ⟨_,_,_,h,_⟩
    · exact Yz h
    · cases h
   subst hl;clear hs hn;go_in;go_wp2_with fail;go_ret;exact⟨_,rfl,ax.nil _ _,Yb _ _⟩
 | some ad=>
   obtain⟨i0,hi,ah,ai,aj⟩:=gV Ap
   have HC:Hid (∀j u,(bJ 5 c l)[j]? =some u→w.cell? (ad.add j)=some u):=zh (fun j u hj=>by
    have ak:j < l.length*5:=(by have :=(Ys.1 hj).1;rwa[bI]at this);rcases hs with⟨_,h⟩ | ⟨b,off,cap,h,_,_,_,_,hc⟩
    · rw[h]at ak;omega
    · cases h;have hi:j / 5 < l.length:=(Nat.div_lt_iff_lt_mul (by decide)).2 ak;have hm:j % 5 < 5:=Nat.mod_lt _ (by decide);have e:=Nat.div_add_mod j 5;have hg:=dE d (s:=5) (c:=c) l (j / 5) (j % 5) hi hm;rw[e,hj]at hg;have h2:=hc (j / 5) hi (j % 5) hm;rw[Nat.add_assoc,e]at h2;rw[Yx hg];rw[Addr.add_lit]
      exact h2)
   have HN:=zh hn;have HI:=zh hi;have Z0:=zh ah;have Z1:=zh ai;have Z2:=zh aj;have FL:Hid ((bJ 5 c l).length=l.length*5):=zh (bI l)
   have H1:Hid (∀u∈bJ 5 c l,u.oneCell'=true):=zh (fun u hu=>by
    unfold bJ at hu;obtain⟨x,_,hx⟩:=List.mem_flatMap.1 hu;obtain⟨j,_,rfl⟩:=Yo.1 hx
    exact h1 x j)
   obtain⟨n,af⟩:=zg l.length;have LN:=zh af;rw[af]at HN FL ⊢;clear hs hn hi ah ai aj af;go_in;go_wp2_with(with_reducible refine zS 7 ?_);refine zh (wpList_append_own _ rfl _ _ 67 rfl w.heap.size 75 i0 (.agg #[.int .i64 0,.int .i64 0,.int .i64 0,.int .i64 0,.int .i64 0]) 5 40 Tryz.underlying67 HI.o Z0.o Z1.o Z2.o (by kernel_rfl) (by decide) _ _ _ rfl (World.ownsRow_made w #[] 0 (Ya _) (Nat.zero_le _) (by simp)) ad n k (bJ 5 c l) rfl FL.o ?qc2 H1.o ?qc4 ?qc5 ?qc6 ?_)
   case qc2=>
    intro j u hj;exact Lib.cell?_alloc_some _ (HC.o j u hj)
   (case qc4=>have :=HN.o;unfold maxLen;omega);(case qc5=>have :=HN.o;omega);(case qc6=>simp);intro v' w1 ae hgrow ag;have O1:Hid (ax 75 5 c w1 w.heap.size v' l):=zh (by unfold ax;rw[LN.o];simpa using ae);have B1:Hid (Below w.heap.size w w1):=zh (((Yb _ w).alloc (Ya _) _).grown hgrow (by simp) (by intro q hq;cases hq;exact Ya _));clear ae hgrow ag;go_wp2_with fail;go_ret;exact⟨_,rfl,O1.o,B1.o⟩
theorem Bi:(Tryz.prog.info? 53).map (fun i=>(i.zero,i.size,i.bytes))=some (some (.agg #[.int .i64 0,.int .i64 0,.int .i64 0]),3,24):=by kernel_rfl
theorem tK{α:Type}{c:α→Nat→Value}(d:α)(h1:∀u j,(c u j).oneCell'=true)(l:List α)(a:Option Addr)(k:Nat)(w:World)(hs:aN 3 w (.slice a l.length k) l.length (fun i=>c (l.getD i d)))(hn:l.length≤1000000):
 Calls Tryz.prog 129 #[.slice a l.length k] w fun e w'=>∃u,e=.returned u∧ax 53 3 c w' w.heap.size u l∧Below w.heap.size w w':=by
 have au:∀(w:World) (a:Option Addr) (n c n' c':Nat),(binOp .eql 46 (.slice a n c) (.slice none n' c')).run Tryz.prog w=.ok (.bool a.isNone) w:=fun w a n c n' c'=>Go.Lib.run_eql_slice_nil w _ _ a n c n' c' Tryz.underlying46
 cases a with
 | none=>
   have hl:l=[]:=by
    rcases hs with⟨_,h⟩ | ⟨_,_,_,h,_⟩
    · exact Yz h
    · cases h
   subst hl;clear hs hn;go_in;go_wp2_with fail;go_ret;exact⟨_,rfl,ax.nil _ _,Yb _ _⟩
 | some ad=>
   obtain⟨i0,hi,ah,ai,aj⟩:=gV Bi
   have HC:Hid (∀j u,(bJ 3 c l)[j]? =some u→w.cell? (ad.add j)=some u):=zh (fun j u hj=>by
    have ak:j < l.length*3:=(by have :=(Ys.1 hj).1;rwa[bI]at this);rcases hs with⟨_,h⟩ | ⟨b,off,cap,h,_,_,_,_,hc⟩
    · rw[h]at ak;omega
    · cases h;have hi:j / 3 < l.length:=(Nat.div_lt_iff_lt_mul (by decide)).2 ak;have hm:j % 3 < 3:=Nat.mod_lt _ (by decide);have e:=Nat.div_add_mod j 3;have hg:=dE d (s:=3) (c:=c) l (j / 3) (j % 3) hi hm;rw[e,hj]at hg;have h2:=hc (j / 3) hi (j % 3) hm;rw[Nat.add_assoc,e]at h2;rw[Yx hg];rw[Addr.add_lit]
      exact h2)
   have HN:=zh hn;have HI:=zh hi;have Z0:=zh ah;have Z1:=zh ai;have Z2:=zh aj;have FL:Hid ((bJ 3 c l).length=l.length*3):=zh (bI l)
   have H1:Hid (∀u∈bJ 3 c l,u.oneCell'=true):=zh (fun u hu=>by
    unfold bJ at hu;obtain⟨x,_,hx⟩:=List.mem_flatMap.1 hu;obtain⟨j,_,rfl⟩:=Yo.1 hx
    exact h1 x j)
   obtain⟨n,af⟩:=zg l.length;have LN:=zh af;rw[af]at HN FL ⊢;clear hs hn hi ah ai aj af;go_in;go_wp2_with(with_reducible refine zS 7 ?_);refine zh (wpList_append_own _ rfl _ _ 46 rfl w.heap.size 53 i0 (.agg #[.int .i64 0,.int .i64 0,.int .i64 0]) 3 24 Tryz.underlying46 HI.o Z0.o Z1.o Z2.o (by kernel_rfl) (by decide) _ _ _ rfl (World.ownsRow_made w #[] 0 (Ya _) (Nat.zero_le _) (by simp)) ad n k (bJ 3 c l) rfl FL.o ?qc2 H1.o ?qc4 ?qc5 ?qc6 ?_)
   case qc2=>
    intro j u hj;exact Lib.cell?_alloc_some _ (HC.o j u hj)
   (case qc4=>have :=HN.o;unfold maxLen;omega);(case qc5=>have :=HN.o;omega);(case qc6=>simp);intro v' w1 ae hgrow ag;have O1:Hid (ax 53 3 c w1 w.heap.size v' l):=zh (by unfold ax;rw[LN.o];simpa using ae);have B1:Hid (Below w.heap.size w w1):=zh (((Yb _ w).alloc (Ya _) _).grown hgrow (by simp) (by intro q hq;cases hq;exact Ya _));clear ae hgrow ag;go_wp2_with fail;go_ret;exact⟨_,rfl,O1.o,B1.o⟩
theorem AV:(Tryz.prog.info? 37).map (fun i=>(i.zero,i.size,i.bytes))=some (some (.agg (ah 35 (scC sc0))),35,56):=by kernel_rfl
theorem tY{α:Type}{c:α→Nat→Value}(d:α)(h1:∀u j,(c u j).oneCell'=true)(l:List α)(a:Option Addr)(k:Nat)(w:World)(hs:aN 35 w (.slice a l.length k) l.length (fun i=>c (l.getD i d)))(hn:l.length≤1000000):
 Calls Tryz.prog 19 #[.slice a l.length k] w fun e w'=>∃u,e=.returned u∧ax 37 35 c w' w.heap.size u l∧Below w.heap.size w w':=by
 have ay:∀(w:World) (a:Option Addr) (n c n' c':Nat),(binOp .eql 32 (.slice a n c) (.slice none n' c')).run Tryz.prog w=.ok (.bool a.isNone) w:=fun w a n c n' c'=>Go.Lib.run_eql_slice_nil w _ _ a n c n' c' Tryz.underlying32
 cases a with
 | none=>
   have hl:l=[]:=by
    rcases hs with⟨_,h⟩ | ⟨_,_,_,h,_⟩
    · exact Yz h
    · cases h
   subst hl;clear hs hn;go_in;go_wp2_with fail;go_ret;exact⟨_,rfl,ax.nil _ _,Yb _ _⟩
 | some ad=>
   obtain⟨i0,hi,ai,aj,ak⟩:=gV AV
   have HC:Hid (∀j u,(bJ 35 c l)[j]? =some u→w.cell? (ad.add j)=some u):=zh (fun j u hj=>by
    have au:j < l.length*35:=(by have :=(Ys.1 hj).1;rwa[bI]at this);rcases hs with⟨_,h⟩ | ⟨b,off,cap,h,_,_,_,_,hc⟩
    · rw[h]at au;omega
    · cases h;have hi:j / 35 < l.length:=(Nat.div_lt_iff_lt_mul (by decide)).2 au;have hm:j % 35 < 35:=Nat.mod_lt _ (by decide);have e:=Nat.div_add_mod j 35;have hg:=dE d (s:=35) (c:=c) l (j / 35) (j % 35) hi hm;rw[e,hj]at hg;have h2:=hc (j / 35) hi (j % 35) hm;rw[Nat.add_assoc,e]at h2;rw[Yx hg];rw[Addr.add_lit]
      exact h2)
   have HN:=zh hn;have HI:=zh hi;have Z0:=zh ai;have Z1:=zh aj;have Z2:=zh ak;have FL:Hid ((bJ 35 c l).length=l.length*35):=zh (bI l)
   have H1:Hid (∀u∈bJ 35 c l,u.oneCell'=true):=zh (fun u hu=>by
    unfold bJ at hu;obtain⟨x,_,hx⟩:=List.mem_flatMap.1 hu;obtain⟨j,_,rfl⟩:=Yo.1 hx
    exact h1 x j)
   obtain⟨n,af⟩:=zg l.length;have LN:=zh af;rw[af]at HN FL ⊢;clear hs hn hi ai aj ak af;go_in;go_wp2_with(with_reducible refine zS 7 ?_);refine zh (wpList_append_own _ rfl _ _ 32 rfl w.heap.size 37 i0 (.agg (ah 35 (scC sc0))) 35 56 Tryz.underlying32 HI.o Z0.o Z1.o Z2.o (by kernel_rfl) (by decide) _ _ _ rfl (World.ownsRow_made w #[] 0 (Ya _) (Nat.zero_le _) (by simp)) ad n k (bJ 35 c l) rfl FL.o ?qc2 H1.o ?qc4 ?qc5 ?qc6 ?_)
   case qc2=>
    intro j u hj;exact Lib.cell?_alloc_some _ (HC.o j u hj)
   (case qc4=>have :=HN.o;unfold maxLen;omega);(case qc5=>have :=HN.o;omega);(case qc6=>simp);intro v' w1 ae hgrow ag;have O1:Hid (ax 37 35 c w1 w.heap.size v' l):=zh (by unfold ax;rw[LN.o];simpa using ae);have B1:Hid (Below w.heap.size w w1):=zh (((Yb _ w).alloc (Ya _) _).grown hgrow (by simp) (by intro q hq;cases hq;exact Ya _));clear ae hgrow ag;go_wp2_with fail;go_ret;exact⟨_,rfl,O1.o,B1.o⟩
end Go.Proofs.YtfddbnmfllgifaaGreatDoor
namespace Go.Proofs.YtfddbnmfllgifaaGreatDoor
open Go.RowKit Cod Top
theorem uO{g:Nat}{lb:Array Value}(eg:∀args w,(callFunc g args).run Tryz.prog w=.ok (.enter g args) w)(w:World):
 Calls Tryz.prog 181 #[.slice none 0 0,.func (.func g) #[] lb] w (zr (.slice none 0 0) w):=by
 have C:=zh (oO (lb:=lb) eg (fun _=>false) 0 (fun _ _=>undef) (.slice none 0 0) w (.inl ⟨⟨none,0,rfl,fun _=>rfl⟩,rfl⟩) (by decide) (fun i W h=>absurd h (Nat.not_lt_zero i)));rw[show iI (fun _=>false) 0= -1 from rfl]at C;go_in;have B0:=zh (Yb w.heap.size w);go_wp2_with fail;refine(C.o).mono ?_;rintro e w1 ⟨rfl,b1⟩;have B1:=zD B0 b1;clear b1 B0;clear C;go_wp2_with fail;go_ret;exact⟨rfl,B1.o⟩
theorem wU{α:Type}{c:α→Nat→Value}(d:α)(h1:∀u j,(c u j).oneCell'=true){g:Nat}{lb:Array Value}(eg:∀args w,(callFunc g args).run Tryz.prog w=.ok (.enter g args) w)(J0:World→Prop)(p:α→Bool)(l:List α)(base:Nat)(v:Value)(w:World)(ho:ax 75 5 c w base v l)(hn:l.length≤1000000)(h0:J0 w)
 (ae:∀W W',J0 W→Below W.heap.size W W'→J0 W') (af:∀b W W',v.ownBlock=some b→J0 W→aG b W W'→J0 W')
 (hp:∀x W,x∈l→J0 W→Calls Tryz.prog g (#[.agg (ah 5 (c x))]++lb) W fun e W'=>e=.returned (.bool (p x))∧Below W.heap.size W W'):
 Calls Tryz.prog 181 #[v,.func (.func g) #[] lb] w fun e w'=>∃u,e=.returned u∧ax 75 5 c w' base u (l.filter fun x=> !p x)∧J0 w'∧∀k,k≤w.heap.size→(∀b,v.ownBlock=some b→k≤b)→Below k w w':=by
 by_cases hv:v=.slice none 0 0
 · subst hv
   have hl:l=[]:=by
    obtain⟨a,k,e⟩:=ho.slice;have h0:l.length=0:=(Value.slice.inj e).2.1.symm;exact Yz h0
   subst hl;refine(uO eg w).mono ?_;rintro e w' ⟨rfl,b⟩;exact⟨_,rfl,ax.nil _ _,ae _ _ h0 b,fun k hk _=>b.mono hk⟩
 obtain⟨b,cap,f,rfl,hc,ai,hm,hr,hf⟩:=ho.OV d hv;refine(wF d h1 eg (fun bs W=>J0 W∧bs=(l.take bs.length).map p∧aG b w W) l b cap base f w ai hm hr hc hf hn ⟨h0,by simp,aG.refl _ _⟩ ?_ ?_ ?_).mono ?_
 · rintro bs W W' ⟨j1,j2,j3⟩ hb;exact⟨ae _ _ j1 hb,j2,j3.trans (aG.of_below hb)⟩
 · rintro bs W W' ⟨j1,j2,j3⟩ hb;exact⟨af b _ _ rfl j1 hb,j2,j3.trans hb⟩
 · rintro bs W ⟨j1,j2,j3⟩ ag;refine(hp (l.getD bs.length d) W (aK ag) j1).mono ?_;rintro e W' ⟨rfl,hb⟩;refine⟨_,rfl,⟨ae _ _ j1 hb,?_,j3.trans (aG.of_below hb)⟩,dK.of_below hb⟩;rw[Yf,Yj,aH d l ag,Yn,←j2];rfl
 · rintro e w' ⟨bs,rfl,hl,hO,j1,j2,j3⟩;rw[hl,List.take_length]at j2;subst j2;rw[lh]at hO;rw[lh];exact⟨_,rfl,hO,j1,fun k hk hb=>j3.below (hb b rfl) hk⟩
theorem uM{g:Nat}{lb:Array Value}(eg:∀args w,(callFunc g args).run Tryz.prog w=.ok (.enter g args) w)(w:World):
 Calls Tryz.prog 128 #[.slice none 0 0,.func (.func g) #[] lb] w (zr (.slice none 0 0) w):=by
 have C:=zh (oN (lb:=lb) eg (fun _=>false) 0 (fun _ _=>undef) (.slice none 0 0) w (.inl ⟨⟨none,0,rfl,fun _=>rfl⟩,rfl⟩) (by decide) (fun i W h=>absurd h (Nat.not_lt_zero i)));rw[show iI (fun _=>false) 0= -1 from rfl]at C;go_in;have B0:=zh (Yb w.heap.size w);go_wp2_with fail;refine(C.o).mono ?_;rintro e w1 ⟨rfl,b1⟩;have B1:=zD B0 b1;clear b1 B0;clear C;go_wp2_with fail;go_ret;exact⟨rfl,B1.o⟩
theorem wW{α:Type}{c:α→Nat→Value}(d:α)(h1:∀u j,(c u j).oneCell'=true){g:Nat}{lb:Array Value}(eg:∀args w,(callFunc g args).run Tryz.prog w=.ok (.enter g args) w)(J0:World→Prop)(p:α→Bool)(l:List α)(base:Nat)(v:Value)(w:World)(ho:ax 53 3 c w base v l)(hn:l.length≤1000000)(h0:J0 w)
 (ae:∀W W',J0 W→Below W.heap.size W W'→J0 W') (af:∀b W W',v.ownBlock=some b→J0 W→aG b W W'→J0 W')
 (hp:∀x W,x∈l→J0 W→Calls Tryz.prog g (#[.agg (ah 3 (c x))]++lb) W fun e W'=>e=.returned (.bool (p x))∧Below W.heap.size W W'):
 Calls Tryz.prog 128 #[v,.func (.func g) #[] lb] w fun e w'=>∃u,e=.returned u∧ax 53 3 c w' base u (l.filter fun x=> !p x)∧J0 w'∧∀k,k≤w.heap.size→(∀b,v.ownBlock=some b→k≤b)→Below k w w':=by
 by_cases hv:v=.slice none 0 0
 · subst hv
   have hl:l=[]:=by
    obtain⟨a,k,e⟩:=ho.slice;have h0:l.length=0:=(Value.slice.inj e).2.1.symm;exact Yz h0
   subst hl;refine(uM eg w).mono ?_;rintro e w' ⟨rfl,b⟩;exact⟨_,rfl,ax.nil _ _,ae _ _ h0 b,fun k hk _=>b.mono hk⟩
 obtain⟨b,cap,f,rfl,hc,ai,hm,hr,hf⟩:=ho.OV d hv;refine(wX d h1 eg (fun bs W=>J0 W∧bs=(l.take bs.length).map p∧aG b w W) l b cap base f w ai hm hr hc hf hn ⟨h0,by simp,aG.refl _ _⟩ ?_ ?_ ?_).mono ?_
 · rintro bs W W' ⟨j1,j2,j3⟩ hb;exact⟨ae _ _ j1 hb,j2,j3.trans (aG.of_below hb)⟩
 · rintro bs W W' ⟨j1,j2,j3⟩ hb;exact⟨af b _ _ rfl j1 hb,j2,j3.trans hb⟩
 · rintro bs W ⟨j1,j2,j3⟩ ag;refine(hp (l.getD bs.length d) W (aK ag) j1).mono ?_;rintro e W' ⟨rfl,hb⟩;refine⟨_,rfl,⟨ae _ _ j1 hb,?_,j3.trans (aG.of_below hb)⟩,dK.of_below hb⟩;rw[Yf,Yj,aH d l ag,Yn,←j2];rfl
 · rintro e w' ⟨bs,rfl,hl,hO,j1,j2,j3⟩;rw[hl,List.take_length]at j2;subst j2;rw[lh]at hO;rw[lh];exact⟨_,rfl,hO,j1,fun k hk hb=>j3.below (hb b rfl) hk⟩
abbrev encI(a:Int):Value:=.int .i64 a
abbrev Pq(a:Int):Array Value:= #[.int .i64 a]
abbrev anyI(_:Int):Prop:=True
abbrev NdM(w:World)(b:Nat)(m:List (Int×Value)):Prop:=KM.At encI anyI w b m
theorem kyI:KM.Ky Tryz.prog 3 encI anyI:=KM.ky_int Tryz.underlying3
theorem kY(W:World):(zeroValue 3).run Tryz.prog W=.ok (.int .i64 0) W:=by kernel_rfl
theorem yE(b:Option Nat)(w:World):Calls Tryz.prog 219 #[.map b] w fun e w'=>e=.returned (.func (.func 256) #[] #[.pointer (some ⟨w.heap.size,0,none⟩)])∧w'=w.alloc (.cells #[.map b] 252):=by
 have ae:=zM Tryz.prog;go_in;go_wp2_with fail;go_ret;exact⟨rfl,rfl⟩
theorem OY(n B b:Nat)(m:List (Int×Value))(w:World)(hB:ag w B 252 1 (fun _=>.map (some b)))(hm:NdM w b m):
 tX n Tryz.prog 256 #[.pointer (some ⟨B,0,none⟩)] Pq (fun _ _=>True) (fun k=>k=b) (fun xs=>xs.Perm (m.map (·.1))) m.length w:=by
 intro l J Fr W hW hJ hN hY h0;show Calls _ _ #[.func (.yield l) #[] #[],.pointer (some ⟨B,0,none⟩)] W _;have M0:=zh (hm.below hW);have B0:=zh (hB.below hW);have HY:=zh hY;have HJ:=zh hJ;have J0:Hid (J [] W):=zh h0;have F0:Hid (Fr W b):=zh (hN b rfl);have x0:W.cell? ⟨B,0,none⟩=some (.map (some b)):=B0.cell (i:=0) (by decide);clear hm hB hW hJ hN hY h0;go_in;go_wp2_with(with_reducible refine zS 5 ?_);refine zh (KM.pY rfl 252 3 (.tmp 4) rfl rfl M0.o Tryz.underlying252 ?_);intro w1 R1 b1;have J1:=zh (HJ.below J0.o b1.o);have K1:=zh (HJ.kf J0.o b1.o);have F1:Hid (Fr w1 b):=zh (K1.same b M0.lt F0.o).2;have I1:Hid (Fr w1 W.heap.size):=zh (HJ.grow _ _ _ _ none J0.o (HJ.fresh _ _ _ J0.o (Ya _)) (bD b1.o) (fun r e=>by cases e));clear b1 M0 J0 x0 F0;go_wp2_with fail;simp only[Act.put,zu]
 go_loopg [] m.length (fun gh wx=>∃(dn:List Int) (L:List (Int×Value)),L.length=gh∧Hid ((dn++L.map (·.1)).Perm (m.map (·.1)))∧Hid (KM.Rng encI anyI wx b W.heap.size m L)∧Hid (J dn wx)∧Hid (Fr wx b∧Fr wx W.heap.size)∧Hid (Kf Fr W wx));case atStart=>exact⟨[],m,rfl,zh (List.Perm.refl _),R1,J1,zh ⟨F1.o,I1.o⟩,K1⟩
 case round=>
  clear R1 J1 F1 I1 K1;obtain⟨dn,L,hg,hP,hR,hJ,hF,hK⟩:=hrel;obtain⟨w1,rfl⟩:=zG wr;have HG:=zh hg;clear hg;go_wp2_with(with_reducible refine zS 6 ?_);refine zh (KM.sN rfl (.tmp 5) rfl rfl hR.o ?_ ?_)
  · intro hl
    have FX:Hid (∃xs,xs.Perm (m.map (·.1))∧J xs w1):=zh ⟨dn,by
     have h2:=hP.o
     rwa[hl,List.map_nil,List.append_nil]at h2,hJ.o⟩
    clear hl hR hP hJ HY HJ hF;go_wp2_with fail;go_end0;exact⟨⟨_,rfl⟩,FX.o,hK.o⟩
  · intro w2 a v L' hp R2 O2 he
    have P2:Hid ((dn++[a]++L'.map (·.1)).Perm (m.map (·.1))):=zh (by
     rw[Xa];exact(List.Perm.append_left dn (hp.map (·.1)).symm).trans hP.o)
    have ai:Hid (L.length=L'.length+1):=zh (by rw[hp.length_eq];rfl);have DL:Hid (dn.length < m.length):=zh (by have h:=P2.length_eq;simp at h;omega);obtain⟨es,clock,seen,q1,q2,q3,q4,q5⟩:=hR.2;obtain⟨j2,f2⟩:=HJ.only hJ.o (Ya W.heap.size) q4 rfl O2.o;have J2:=zh j2;have F2:Hid (Fr w2 b∧Fr w2 W.heap.size):=zh ⟨f2 _ hF.1,f2 _ hF.2⟩;have K2:=zh (hK.only O2.o (Ya _) f2);clear hp hP hR hJ O2 q1 q2 q3 q4 q5 j2 f2 hF hK;have af:=zh (HY.o dn a w2 J2.o trivial DL.o);go_upto_region 3 with fail;clear he;refine(wpIn_wide (n:=n)).1 (wpIn_region_lit (bV 2 ?_));simp only[Xe,List.take_zero,Xf,List.drop_zero];go_wp2_with fail;unfold lF;dsimp only;refine dY rfl (.tmp 10) #[.tmp 11] #[3] rfl l rfl #[.int .i64 a] rfl af.o ?_;clear af;rintro e w4 ⟨rfl,ah,ae⟩;have J4:=zh ah;obtain⟨e1,g1⟩:=ae.same b R2.at'.lt F2.1;obtain⟨e2,g2⟩:=ae.same _ R2.lt F2.2;have R4:=zh (R2.of_block e1 e2)
    have F4:Hid (Fr w4 b∧Fr w4 W.heap.size):=zh ⟨g1,g2⟩;have K4:=zh (K2.trans ae);clear ah ae R2 e1 e2 g1 g2 F2 K2 J2;refine⟨_,rfl,bV 1 ?_⟩;simp only[Xe,List.take_zero,Xf,List.drop_zero];go_wp2_with fail;unfold lF;dsimp only;unfold wpListIn;go_wp2_with fail;go_roundg L'.length;(case measure=>have h1:=HG.o;have h2:=ai.o;omega);case rel=>exact⟨dn++[a],L',rfl,P2,R4,J4,F4,K4⟩
theorem Ov(n B:Nat)(w:World)(hB:ag w B 252 1 (fun _=>.map none)):
 tX n Tryz.prog 256 #[.pointer (some ⟨B,0,none⟩)] Pq (fun _ _=>True) (fun k=>False) (fun xs=>xs=[]) 0 w:=by
 intro l J Fr W hW hJ hN hY h0;show Calls _ _ #[.func (.yield l) #[] #[],.pointer (some ⟨B,0,none⟩)] W _;have B0:=zh (hB.below hW);have HJ:=zh hJ;have J0:Hid (J [] W):=zh h0;have x0:W.cell? ⟨B,0,none⟩=some (.map none):=B0.cell (i:=0) (by decide);have ae:∀ty,(Instr.next (.pointer (some ⟨W.heap.size,0,none⟩)) false ty).run Tryz.prog (W.alloc (.mapIter none 0 #[] 0))=_:=fun ty=>run_next_nilMap _ ty 0 0 #[];have af:=run_range_nilMap (P:=Tryz.prog) W 252 3 3 Tryz.underlying252;have b1:Below W.heap.size W (W.alloc (.mapIter none 0 #[] 0)):=(Yb _ W).alloc (Ya _) _;have J1:=zh (HJ.below J0.o b1);have K1:=zh (HJ.kf J0.o b1);clear hB hW hJ hN hY h0 B0 HJ J0 b1;go_in;go_wp2_with fail;go_loopg [] 0 (fun gh wx=>Hid (wx=W.alloc (.mapIter none 0 #[] 0)));case atStart=>exact zh rfl
 case round=>
  obtain rfl:=hrel.o;go_wp2_with fail;go_end0;exact⟨⟨_,rfl⟩,J1.o,K1.o⟩
theorem wK:(Tryz.prog.info? 3).map (fun i=>(i.zero,i.size,i.bytes))=some (some (.int .i64 0),1,8):=by kernel_rfl
theorem TZ{gf:Nat}{lb:Array Value}(eg:∀args w,(callFunc gf args).run Tryz.prog w=.ok (.enter gf args) w){Nd:Nat→Prop}{S:List Int→Prop}{N:Nat}(w:World)(hq:tX 4 Tryz.prog gf lb Pq (fun _ _=>True) Nd S N w)(hd:∀k,Nd k→k < w.heap.size)(hN:N≤1000000):
 Calls Tryz.prog 276 #[.slice none 0 0,.func (.func gf) #[] lb] w fun e w'=>∃u xs,e=.returned u∧S xs∧ax 3 1 bC w' w.heap.size u xs∧Below w.heap.size w w':=by
 have HQ:=zh hq;have HD:=zh hd;have HN:=zh hN;have EG:=zh eg;clear hq hd hN eg;refine dX Tryz.func276 rfl ?_;simp only[Tryz.ntmps276,List.size_toArray,Yr,Xc,Nat.reduceAdd,Nat.reduceSub,Array.replicate_succ,Array.replicate_zero,List.push_toArray,List.append_toArray,List.nil_append,List.cons_append];go_wp2_with fail;obtain⟨w1,ae⟩:=zg (w.alloc (.cells #[.slice none 0 0] 40));have af:Below w.heap.size w w1:=(by rw[←ae];exact(Yb _ w).alloc (Ya _) _);have ah:w.heap.size < w1.heap.size:=(by rw[←ae,Xi];omega);have hx:ag w1 w.heap.size 40 1 (fun _=>.slice none 0 0):=(by rw[←ae];exact ag.new w _ 1 _);rw[ae];have I0:ApI 3 40 1 bC w w.heap.size w.heap.size (.slice none 0 0) ([]++[]) w1:=⟨_,hx,ax.nil _ _,ay.of_below _ af⟩;have HB:Body w1.heap.size (fun pre W=>ApI 3 40 1 bC w w.heap.size w.heap.size (.slice none 0 0) ([]++pre) W) (ApF 40 w.heap.size):=Kr (Yv ah)
 have hF:∀k,Nd k→ApF 40 w.heap.size w1 k:=fun k hk=>⟨Nat.ne_of_lt (HD.o k hk),fun u hu e=>by rw[←dQ hx hu]at e;cases e⟩;clear ae;refine(wpIn_wide (n:=5)).1 (fP (by decide) (gf:=gf) (lb:=lb) rfl EG.o HQ.o af (fun _=>rfl) (fun pre W=>ApI 3 40 1 bC w w.heap.size w.heap.size (.slice none 0 0) ([]++pre) W) (ApF 40 w.heap.size) HB hF I0 (fun x a' W=>a'={tmps:= #[.slice none 0 0,.func (.func gf) #[] lb,.pointer (some ⟨w.heap.size,0,none⟩),undef,.slice none 0 0,.int .i64 x,.func (.func gf) #[] lb,.int .i64 x,undef,undef,undef,undef,undef],defers:=[]}) ?hAx ?assign ?body ?done);case hAx=>exact fun x a' s W W' row h _ _=>h
 case assign=>
  intro l pre x W K hI hD ai hK;refine bU (fun⟨_,_,h⟩=>h) rfl ?_;have HK:=zh hK;clear hI hD hK;go_wp2_with fail;exact HK.o _ W (Yb _ _) rfl
 case body=>
  rintro l pre x a' W hl hr hI rfl hlen ai;refine wpIn_block (bU (fun⟨_,_,h⟩=>(by cases h.1)) rfl ?_);obtain⟨u,h1,h2,h3⟩:=hI;obtain⟨ua,uc,rfl⟩:=h2.slice;have x0:W.cell? ⟨w.heap.size,0,none⟩=some (.slice ua ([]++pre).length uc):=h1.cell (i:=0) (by decide);have f0:=h1.frozen 0;have H1:=zh h1;have H2:=zh h2;have H3:=zh h3;have aj:Hid (([]++pre:List Int).length+1≤1000000):=zh (by have h1:=HN.o;rw[List.nil_append];omega);obtain⟨pl,ak⟩:=zg (([]++pre:List Int));rw[←Xa];rw[ak]at x0 H1 H2 H3 aj ⊢;clear h1 h2 h3 hlen ai hl hr ak;go_wp2_with(with_reducible refine zS 11 ?_);refine zh ?_;have b2:Below W.heap.size W (W.alloc (.cells #[.int .i64 x] 3)):=(Yb _ _).alloc (Ya _) _;have R2:Hid (ag (W.alloc (.cells #[.int .i64 x] 3)) W.heap.size 3 1 (bC x)):=zh (ag.new W 3 1 (bC x));obtain⟨w2,au⟩:=zg (W.alloc (.cells #[.int .i64 x] 3));rw[au]at b2 R2 ⊢;have O2:=zh (H2.below b2);have B2:=zh b2
  have S2:Hid (w.heap.size≤W.heap.size):=zh (Yv H1.lt);clear au b2 x0
  refine bH rfl (.tmp 8) (.tmp 10) wK Tryz.underlying40 rfl (by decide) (by decide) (fun u j=>rfl) (0:Int) rfl w.heap.size (.slice ua pl.length uc) pl rfl O2.o W.heap.size 1 [x] rfl (fun i hi j hj=>by
   obtain rfl:i=0:=(by simp at hi;exact hi);rw[Nat.mul_zero,Yl]
   exact R2.cell hj) (by have h1:=aj.o;show pl.length+1≤1000000;omega) (Yc S2.o B2.size) ?_
  intro v3 w3 O3 s3;obtain⟨e1,e2⟩:=BQ (T:=3) (Ts:=40) (by decide) (Ya _) H1.o H2.o H3.o O3.o ((ay.of_below _ B2.o).trans s3.o)
  have f1:w3.frozen? ⟨w.heap.size,0,none⟩=false:=by
   have h:=(s3.row (H1.below B2.o) (fun e=>bM (by decide) H2.o H1.o _ e rfl)).frozen 0;exact h
  have x1:∃u,w3.cell? ⟨w.heap.size,0,none⟩=some u:=⟨_,(s3.row (H1.below B2.o) (fun e=>bM (by decide) H2.o H1.o _ e rfl)).cell (i:=0) (by decide)⟩;obtain⟨xu,x1⟩:=x1;obtain⟨va,vc,rfl⟩:=O3.slice;have E1:=zh e1;have E2:=zh e2;rw[show(pl++[x]).length=pl.length+1 from by simp]at E1 E2;clear e1 e2 s3 O3 R2 O2 H1 H2 H3 B2 f0;go_wp2_with fail;exact⟨trivial,E1.o,E2.o⟩
 case done =>
  intro D xs W hD hS hI hF hK _;obtain⟨u,h1,h2,h3⟩:=hI;obtain⟨ua,uc,rfl⟩:=h2.slice;have x0:W.cell? ⟨w.heap.size,0,none⟩=some (.slice ua ([]++xs).length uc):=h1.cell (i:=0) (by decide);have DK:=zh hK;have HL:=zh (show w.heap.size≤D from Yc (Yv ah) hD);have HO:=zh h2;have HA:=zh h3;have HS:=zh hS;clear h1 h2 h3 hK hD hF hS;go_wp2_with fail;have hK:=DK.o;refine⟨by simp,.inl ⟨_,_,rfl,run_takeDeferred hK,?_⟩⟩;have gp:=grownBy_putObj' W D (.deferred none);refine⟨_,results_tmp rfl _ _ _,_,xs,rfl,HS.o,?_,?_⟩
  · exact ownsRow_putObj HO.o _ hK rfl
  · have HB:=aO HA.o (Ya _) (fun k e=>by cases e);exact HB.grown (grownBy_putObj' _ _ _) HB.size (fun k e=>by cases e;exact HL.o)
theorem yH{gf:Nat}{lb:Array Value}(eg:∀args w,(callFunc gf args).run Tryz.prog w=.ok (.enter gf args) w){Nd:Nat→Prop}{S:List Int→Prop}{N:Nat}(w:World)(hq:tX 4 Tryz.prog gf lb Pq (fun _ _=>True) Nd S N w)(hd:∀k,Nd k→k < w.heap.size)(hN:N≤1000000):
 Calls Tryz.prog 246 #[.func (.func gf) #[] lb] w fun e w'=>∃u xs,e=.returned u∧S xs∧ax 3 1 bC w' w.heap.size u xs∧Below w.heap.size w w':=by
 have C:=zh (TZ eg w hq hd hN);clear hq hd hN eg;go_in;go_wp2_with fail;refine C.mono ?_;rintro e w1 ⟨v,l,rfl,h1,h2,h3⟩;have H1:=zh h1;have H2:=zh h2;have H3:=zh h3;clear h1 h2 h3 C;go_wp2_with fail;go_ret;exact⟨v,l,rfl,H1.o,H2.o,H3.o⟩
def oJ(m:Tr):List (Int×Value):=m.map fun x=>(x.1,encI x.2)
theorem yl(m:Tr):(oJ m).map (·.1)=m.map (·.1):=by unfold oJ;rw[List.map_map];rfl
theorem jL(m:Tr)(k:Int):KM.get (oJ m) k=(Top.look m k).map encI:=by
 unfold KM.get oJ Top.look;rw[List.find?_map]
 cases h:m.find? ((fun p:Int×Value=>decide (p.1=k))∘fun x=>(x.1,encI x.2))with
 | none=>
   have h2:m.find? (fun x=>decide (x.1=k))=none:=h;rw[h2];rfl
 | some z=>
   have h2:m.find? (fun x=>decide (x.1=k))=some z:=h;rw[h2];rfl
abbrev NdT(w:World)(b:Nat)(m:Tr):Prop:=NdM w b (oJ m)
theorem NdT.nodup{w:World}{b:Nat}{m:Tr}(h:NdT w b m):(m.map (·.1)).Nodup:=by have h2:=KM.At.nodup h;rwa[yl]at h2
theorem NdT.step{w':World}{b:Nat}{m:Tr}{x:Int×Int}(h:NdM w' b (KM.put (oJ m) x.1 (encI x.2)))(hn:(Top.look m x.1).isSome=false):NdT w' b (mW m x):=by
 refine h.perm ?_
 have h0:KM.get (oJ m) x.1=none:=by
  rw[jL]
  cases hl:Top.look m x.1 with
  | none=>rfl
  | some y=>rw[hl]at hn;cases hn
 unfold KM.put mW;rw[KM.ny h0,hn,if_neg Bool.false_ne_true];unfold oJ;rw[Yn];exact List.perm_append_comm (l₁:=[(x.1,encI x.2)])
theorem NdT.je{w':World}{b:Nat}{m:Tr}{n p:Int}(h:NdM w' b (KM.put (oJ m) n (encI p))):NdT w' b (je m n p):=by
 refine h.perm ?_;unfold KM.put KM.del Top.je oJ;rw[Yn,List.filter_map];exact List.perm_append_comm (l₁:=[(n,encI p)])
theorem NdT.del{w':World}{b:Nat}{m:Tr}{n:Int}(h:NdM w' b (KM.del (oJ m) n)):NdT w' b (m.filter fun x=> !decide (x.1=n)):=by
 refine h.perm ?_;unfold KM.del oJ;rw[List.filter_map];exact List.Perm.refl _
abbrev trA(h:Hd):Value:=.agg #[h.v]
theorem Df(t:Tr)(h:Hd)(w:World)(ht:eY w h t)(hn:t.length≤1023):
 Calls Tryz.prog 144 #[trA h] w fun e w'=>∃b,e=.returned (.map (some b))∧NdT w' b (ofL t)∧w.heap.size≤b∧Below w.heap.size w w':=by
 have ay:=fun W=>run_makeMap_plain (w:=W) (P:=Tryz.prog) 252;obtain⟨la,ln,lc⟩:=h
 have af:ln=t.length:=by
  obtain⟨a,k,e⟩:=ax.slice ht;cases e;rfl
 subst af;have H0:=zh (ht.at2 (by omega));have qn:(t.length:Int)≤1023:=(by omega);obtain⟨n,af⟩:=zg t.length;have HN:=zh af;rw[af]at H0 qn ⊢;clear ht hn af;go_in;have B0:=zh (Yb w.heap.size w);go_upto_region 1 with fail;obtain⟨w1,au,b1,z1,Z1⟩:=zQ w (.cells #[.slice la n lc] 49) 49 1 (fun _=>.slice la n lc) rfl;rw[au];(try rw[z1]);have B1:=zD B0 b1;clear b1 au z1 B0;go_upto_region 2 with fail;have LT:=zh B1.size;obtain⟨w2,ah⟩:=zg (w1.alloc (.map #[] 0));have b2:Below w1.heap.size w1 w2:=(by rw[←ah];exact(Yb _ _).alloc (Ya _) _);have M2:Hid (NdT w2 w1.heap.size (ofL [])):=zh (by rw[←ah];exact KM.At.made encI anyI w1);have z2:w1.heap.size+1=w2.heap.size:=(by rw[←ah];exact(Array.size_push _).symm);rw[ah];(try rw[z2]);have B2:=zD B1 b2;have Z2:=zh (Z1.below b2);clear b2 ah z2 B1 Z1;clear ay;have x0:w2.cell? ⟨w.heap.size,0,none⟩=some (.slice la n lc):=Z2.cell (i:=0) (by decide);go_wp2_with fail
 clear x0 Z2;go_loopg [12] n (fun g az wx=>∃k:Nat,k+g=n∧az=.int .i64 (k:Int)∧Hid (NdT wx w1.heap.size (ofL (t.take k)))∧Hid (Below w.heap.size w wx));case atStart=>exact⟨0,by omega,rfl,M2,B2⟩
 case round=>
  clear M2 B2;obtain⟨k,hk,rfl,hM,hB⟩:=hrel;obtain⟨w2,rfl⟩:=zG wr;have q0:=Ye k;by_cases ae:k < n
  · obtain⟨d0,d1,-⟩:=zl ae;obtain⟨b,off,rfl,aj,hb,hc⟩:=aN.aI (s:=2) (n:=n) (a:=la) (k:=lc) (c:=fun i=>ndC (t.getD i nd0)) (H0.below hB.o) ae;have ai:=zh ae;have ak:=zh (fun j hj=>hc k ae j hj);have TK:=zh (aH nd0 t (show k < t.length by rw[HN.o];exact ae));obtain⟨x,hx⟩:=zg (t.getD k nd0);rw[hx]at ak TK;have p1:(k:Int)+1≤1023:=(by omega);clear hc aj hb hx ae;go_upto_region 4 with fail;go_wp2_with(with_reducible refine zS 15 ?_);refine zh (zE b (off+k*2) rfl Zh off k (by rw[Ym]) (ndC x) ak.o ?_);have B2:=hB;have M2:=hM;clear hB hM ak d0 d1;have Zr:=zh (ag.new w2 302 2 (ndC nd0));go_upto_region 5 with((with_reducible refine zN ?_);refine zV Zr rfl (ndC x) rfl Zh (fun _ _=>rfl) ?_;intro w3 X3 o3);have b3:Below w2.heap.size w2 w3:=zO o3;have B3:=zD B2 b3;have M3:=zh (M2.below b3);clear b3 o3 Zr B2 M2;have x0:w3.cell? ⟨w2.heap.size,0,none⟩=some (.int .i64 x.1):=X3.cell (i:=0) (by decide)
    have x1:w3.cell? ⟨w2.heap.size,1,none⟩=some (.int .i64 x.2):=X3.cell (i:=1) (by decide);go_wp2_with(with_reducible refine zS 20 ?_);refine zh (KM.dJ kyI rfl 252 3 (.tmp 17) (.tmp 19) true rfl x.1 trivial rfl rfl M3.o Tryz.underlying252 kY ?_);rw[jL];obtain⟨r,hr⟩:=zg (Top.look (ofL (List.take k t)) x.1);rw[hr]
    cases r with
    | some y=>
      have M4:Hid (NdT w3 w1.heap.size (ofL (t.take (k+1)))):=zh (by
       rw[TK.o,mJ];unfold mW;rw[hr]
       exact M3.o)
      clear M3 hr TK X3;go_wp2_with fail;go_roundg(n - (k+1));case measure=>have :=ai.o;omega
      case rel=>
       go_light;exact⟨k+1,by have :=ai.o;omega,by go_num,M4,B3⟩
    | none=>
      have HR:=zh hr;clear hr;go_wp2_with(with_reducible refine zn ?_);refine zh (KM.di kyI rfl 252 3 (.tmp 25) (.tmp 27) (.tmp 29) rfl x.1 trivial (encI x.2) rfl rfl rfl M3.o Tryz.underlying252 ?_);intro w4 A4 O4
      have M4:Hid (NdT w4 w1.heap.size (ofL (t.take (k+1)))):=zh (by
       rw[TK.o,mJ]
       exact NdT.step A4.o (by rw[HR.o];rfl))
      have B4:=zh (B3.trans (O4.below LT.o B3.size));clear A4 O4 M3 B3 X3 x0 x1 TK HR;go_wp2_with fail;go_roundg(n - (k+1));case measure=>have :=ai.o;omega
      case rel=>
       go_light;exact⟨k+1,by have :=ai.o;omega,by go_num,M4,B4⟩
  · obtain⟨d0,d1⟩:=zk ae;have M2:Hid (NdT w2 w1.heap.size (ofL t)):=zh (by have h:=hM.o;rwa[Yq (by rw[HN.o];omega)]at h);have B2:=hB;clear hM hB ae hk q0;go_wp2_with fail;go_ret;exact⟨_,rfl,M2.o,LT.o,B2.o⟩
theorem Ip(b:Nat)(m:Tr)(n:Int)(w:World)(hm:NdT w b m):
 Calls Tryz.prog 216 #[.map (some b),.int .i64 n] w fun e w'=>e=.returned (.tuple #[])∧NdT w' b (m.filter fun x=> !decide (x.1=n))∧aG b w w':=by
 obtain⟨w1,hr,h1,h2⟩:=KM.IJ (P:=Tryz.prog) kyI 252 3 0 (k:=n) trivial hm Tryz.underlying252;have H1:=zh (NdT.del h1);have H2:=zh h2;clear h1 h2 hm;go_in;go_wp2_with fail;go_end0;exact⟨rfl,H1.o,H2.o⟩
theorem mV(t:Tr)(h:Hd)(n:Int)(w:World)(ht:eY w h t)(hn:t.length≤1023):
 Calls Tryz.prog 96 #[trA h,.int .i64 n] w (zr (.tuple #[.int .i64 ((Top.look t n).getD 0),.bool (Top.look t n).isSome]) w):=by
 have H0:=zh ht;have HN:=zh hn;clear ht hn;go_in;have B0:=zh (Yb w.heap.size w);go_upto_region 1 with fail;obtain⟨w1,ae,b1,z1,Z1⟩:=zQ w (.cells #[h.v] 49) 49 1 (fun _=>h.v) rfl;rw[ae];(try rw[z1]);have B1:=zD B0 b1;have H1:=zh (H0.below b1);clear b1 ae z1 B0 H0;have C:=zh (Df t h w1 H1.o HN.o);go_wp2_with(with_reducible refine zS 7 ?_);refine zh (zL Z1 rfl YP ?_);go_wp2_with fail;refine C.mono ?_;rintro e w2 ⟨b,rfl,hm,hb,b2⟩;have M2:=zh hm;have B2:=zD B1 b2;clear hm hb b2 C Z1 H1 B1;go_wp2_with(with_reducible refine zS 10 ?_);refine zh (KM.dJ kyI rfl 252 3 (.tmp 8) (.tmp 9) true rfl n trivial rfl rfl M2.o Tryz.underlying252 kY ?_);rw[jL,vw];obtain⟨r,hr⟩:=zg (Top.look t n);rw[hr];have HR:=zh hr;clear hr
 cases r with
 | some y=>
   go_wp2_with fail;go_ret2;rw[HR.o];exact⟨rfl,B2.o⟩
 | none=>
   go_wp2_with fail;go_ret2;rw[HR.o];exact⟨rfl,B2.o⟩
theorem VO(u:Value)(h:u∈(Value.agg (ah 35 (scC sc0))).cells.toList):u.oneCell'=true:=by
 have h2:u∈(List.range 35).map (scC sc0):=h;obtain⟨j,_,rfl⟩:=Yo.1 h2;exact eG sc0 j
theorem wM(l:List Sc)(base:Nat)(v:Value)(w:World)(ho:ax 37 35 scC w base v l)(hn:l.length≤1000000)(hg:∀x∈l,ScW x):
 Calls Tryz.prog 22 #[v] w fun e w'=>∃u,∃l':List Sc,e=.returned u∧ax 37 35 scC w' base u l'∧(∀x,x∈l'↔x∈l)∧l'.length≤l.length∧ay w v w' u:=by
 by_cases hv:v=.slice none 0 0
 · subst hv
   have hl:l=[]:=by
    obtain⟨a,k,e⟩:=ho.slice;have h0:l.length=0:=(Value.slice.inj e).2.1.symm;exact Yz h0
   subst hl;go_in;go_wp2_with fail;go_ret;exact⟨_,[],rfl,ax.nil _ _,fun x=>Iff.rfl,Ya _,ay.refl _ _⟩
 obtain⟨b,cap,f,rfl,hc,aN,hm,hr,hf⟩:=ho.OV sc0 hv;have R:=zh hr;have HF:=zh hf;have HC:=zh hc;have aS:=zh aN;have HM:=zh hm;have QN:=zh hn;have O0:=zh ho;have HG:=zh hg;obtain⟨n,az⟩:=zg l.length;have LN:=zh az;rw[az]at HF HC QN O0 ⊢;clear hr hf hc aN hm hn ho hv az hg;have B0:Hid (Below w.heap.size w w):=zh (Yb _ w);go_in;by_cases h2:n < 2
 · have d0:decide ((n:Int) < 2)=true:=zt (by omega);clear h2;go_wp2_with fail;go_ret;exact⟨_,l,rfl,O0.o,fun x=>Iff.rfl,by rw[LN.o];exact Ya _,ay.refl _ _⟩
 have d0:decide ((n:Int) < 2)=false:=zT (by omega);have H2:=zh h2;clear h2;go_wp2_with fail;clear d0;go_loopg [3] (n - 1) (fun g s3 wx=>∃k:Nat,k+g=n∧1≤k∧s3=.int .i64 (k:Int)∧Hid (Below w.heap.size w wx));case atStart=>exact⟨1,by have :=H2.o;omega,Ya _,rfl,B0⟩
 case round=>
  clear B0;obtain⟨k,hk,aO,rfl,hB⟩:=hrel;obtain⟨w1,rfl⟩:=zG wr;have q0:=Ye k;by_cases aj:k < n
  · obtain⟨d0,d1,-⟩:=zl aj;have ai:=zh aj;have aP:=zh aO;have R1:=zh (R.below hB.o);have aA:IntKind.i64.wrap ((k:Int) - 1)=(((k - 1:Nat)):Int):=(IntWalk.i64_in _ (by have :=QN.o;omega)).trans (by omega);have aQ:IntKind.i64.wrap ((k:Int)+1)=(((k+1:Nat)):Int):=(IntWalk.i64_in _ (by have :=QN.o;omega)).trans (by omega);have q1:(0:Int)≤((k - 1:Nat):Int):=Ye _;have d2:decide (((k - 1:Nat):Int) < (n:Int))=true:=zt (by omega);have d3:decide (k - 1 < n)=true:=zt (by omega);have q4:(k:Int) < (n:Int):=(by omega);have q5:((k - 1:Nat):Int) < (n:Int):=(by omega);have LX:Hid (∀j,j < 35→f ((k*35)+j)=scC (l.getD k sc0) j):=zh (fun j hj=>by rw[show(k*35)+j=35*k+j by omega];exact HF.o k ai.o j hj);have LY:Hid (∀j,j < 35→f (((k - 1)*35)+j)=scC (l.getD (k - 1) sc0) j):=zh (fun j hj=>by rw[show((k - 1)*35)+j=35*(k - 1)+j by omega];exact HF.o (k - 1) (by have :=ai.o;omega) j hj)
    have NX:Hid ((k*35)+35≤cap*35):=zh (by have :=ai.o;have :=HC.o;omega);have NY:Hid (((k - 1)*35)+35≤cap*35):=zh (by have :=ai.o;have :=HC.o;omega);have GX:=zh (HG.o _ (aK (d:=sc0) (show k < l.length by rw[LN.o];exact ai.o)));have GY:=zh (HG.o _ (aK (d:=sc0) (show k - 1 < l.length by rw[LN.o];have :=ai.o;omega)))
    have EY:Hid (l.getD k sc0=l.getD (k - 1) sc0→∀z,z∈l.take k↔z∈l.take (k+1)):=zh (fun he z=>by
     rw[aH sc0 l (show k < l.length by rw[LN.o];exact ai.o),Yt,Yp,he];refine⟨.inl,fun h=>h.elim id (fun e=>?_)⟩;subst e;obtain⟨q,hq⟩:∃q,k=q+1:=⟨k - 1,by have :=aP.o;omega⟩;subst hq;rw[Nat.add_sub_cancel,aH sc0 l (show q < l.length by rw[LN.o];have :=ai.o;omega)]
     simp)
    obtain⟨x,hx⟩:=zg (l.getD k sc0);obtain⟨y,hy⟩:=zg (l.getD (k - 1) sc0);rw[hx]at LX EY GX;rw[hy]at LY EY GY;clear aj aO;go_upto_region 6 with fail;have aB:=fun W=>TJ GX.o GY.o W;have aC:=fun W=>vH .eql (.tmp 19) (.tmp 24) x y W;refine wp_region_quiet_below (by kernel_rfl) (by kernel_rfl) ?_;(repeat(go_big_quiet_want;go_big_quiet_op;first | go_big_quiet_on | (refine⟨_,fun _ _=>rfl,?_⟩;go_big_quiet_on)));refine zq b (k*35) rfl (cap*35) YT f (scC x) (fun W hW=>R1.below (aT hW)) NX.o LX.o ?_;simp only[Act.put,zu];(repeat(go_big_quiet_want;go_big_quiet_op;first | go_big_quiet_on | (refine⟨_,fun _ _=>rfl,?_⟩;go_big_quiet_on)));refine zq b ((k - 1)*35) rfl (cap*35) YT f (scC y) (fun W hW=>R1.below (aT hW)) NY.o LY.o ?_;simp only[Act.put,zu];(repeat(go_big_quiet_want;go_big_quiet_op;first | go_big_quiet_on | (refine⟨_,fun _ _=>rfl,?_⟩;go_big_quiet_on)));refine wpQuiet_nil ?_;intro w2 ak
    have B2:=zh (hB.trans ((aT ak).mono hB.size));clear ak R1 hB aA q1 d2 d3 q5 aB aC;obtain⟨r,hr⟩:=zg ((decide (x=y)));rw[hr]
    cases r with
    | true=>
      have au:x=y:=(by simpa using hr);have MB:=zh (EY.o au);have q6:(k:Int) < (cap:Int):=(by have :=HC.o;omega);have q7:k < cap:=(by have :=HC.o;omega);have q8:(n:Int)≤(cap:Int):=(by have :=HC.o;omega);have q9:(k:Int)≤(n:Int):=(by omega);clear au EY hr LX LY NX NY aQ GX GY;go_wp2_with fail;clear q6 q7 q8 q9 d0 d1 q4 q0;have OB:Hid (aG b w w2):=zh (aG.of_below B2.o);have R2:=zh (R.below B2.o);obtain⟨k0,aF⟩:=zg k;rw[aF]at MB ai aP;rw[aF];have NK:=zh (show n - k0≤n by omega);obtain⟨nk,aI⟩:=zg (n - k0);have ae:=zh (show k0+nk=n by have :=ai.o;omega);rw[aI]at NK;rw[aI];clear aF aI hk B2
      go_loopg [3,5] (nk - 1) (fun g s3 s5 wx=>∃(k2 kk:Nat) (K:List Sc) (f:Nat→Value),k2+g=nk∧s3=.int .i64 (kk:Int)∧s5=.int .i64 (k2:Int)∧Hid (kk=K.length∧1≤k2∧kk+1≤k0+k2)∧Hid (ag wx b 37 (cap*35) f)∧
       Hid (∀q,q < kk→∀z,z < 35→f (35*q+z)=scC (K.getD q sc0) z)∧Hid (∀q,k0+k2≤q+1→q < n→∀z,z < 35→f (35*q+z)=scC (l.getD q sc0) z)∧Hid (∀z,z∈K↔z∈l.take (k0+k2))∧Hid (aG b w wx))
      case atStart=>
       have h1:=ai.o;have h2:=ae.o;refine⟨1,k0,l.take k0,f,by omega,rfl,rfl,zh ⟨by rw[Yu,LN.o];omega,Ya _,Ya _⟩,R2,zh (fun q hq z hz=>?_),zh (fun q _ hq z hz=>HF.o q hq z hz),MB,OB⟩;rw[HF.o q (by omega) z hz];congr 1;rw[Yd,Yd,Yy hq]
      case round=>
       clear MB R2 OB;obtain⟨k2,kk,K,f,hg,rfl,rfl,hL,hR,hH,hT,hM,hO⟩:=hrel;obtain⟨w1,rfl⟩:=zG wr;have q0:=Ye k2;have q1:=Ye kk;by_cases aj:k2 < nk
       · obtain⟨d0,d1,q4,-⟩:=zl aj;have af:=zh aj;have aU:=hL.2.1;have aA:IntKind.i64.wrap ((k2:Int) - 1)=(((k2 - 1:Nat)):Int):=(IntWalk.i64_in _ (by have :=QN.o;have :=ae.o;omega)).trans (by omega);have aQ:IntKind.i64.wrap ((k2:Int)+1)=(((k2+1:Nat)):Int):=(IntWalk.i64_in _ (by have :=QN.o;have :=ae.o;omega)).trans (by omega);have q2:(0:Int)≤((k2 - 1:Nat):Int):=Ye _;have q5:((k2 - 1:Nat):Int) < (nk:Int):=(by omega);have LX:Hid (∀j,j < 35→f ((k0*35+k2*35)+j)=scC (l.getD (k0+k2) sc0) j):=zh (fun j hj=>by rw[show(k0*35+k2*35)+j=35*(k0+k2)+j by omega];exact hT.o (k0+k2) (by omega) (by have :=ae.o;have :=af.o;omega) j hj);have LY:Hid (∀j,j < 35→f ((k0*35+(k2 - 1)*35)+j)=scC (l.getD (k0+(k2 - 1)) sc0) j):=zh (fun j hj=>by rw[show(k0*35+(k2 - 1)*35)+j=35*(k0+(k2 - 1))+j by omega];exact hT.o (k0+(k2 - 1)) (by have :=hL.2.1;omega) (by have :=ae.o;have :=af.o;omega) j hj)
         have NX:Hid ((k0*35+k2*35)+35≤cap*35):=zh (by have :=af.o;have :=ae.o;have :=HC.o;omega);have NY:Hid ((k0*35+(k2 - 1)*35)+35≤cap*35):=zh (by have :=af.o;have :=ae.o;have :=HC.o;omega);have GX:=zh (HG.o _ (aK (d:=sc0) (show k0+k2 < l.length by rw[LN.o];have :=af.o;have :=ae.o;omega)));have GY:=zh (HG.o _ (aK (d:=sc0) (show k0+(k2 - 1) < l.length by rw[LN.o];have :=af.o;have :=ae.o;omega)));have TX:Hid (l.take (k0+(k2+1))=l.take (k0+k2)++[l.getD (k0+k2) sc0]):=zh (by rw[←Nat.add_assoc];exact aH sc0 l (by rw[LN.o];have :=af.o;have :=ae.o;omega))
         have YM:Hid (l.getD (k0+(k2 - 1)) sc0∈l.take (k0+k2)):=zh (by
          have h2:=hL.2.1;obtain⟨q,hq⟩:∃q,k0+k2=q+1:=⟨k0+k2 - 1,by omega⟩;rw[hq,show k0+(k2 - 1)=q by omega,aH sc0 l (by rw[LN.o];have :=af.o;have :=ae.o;omega)]
          simp)
         obtain⟨x,hx⟩:=zg (l.getD (k0+k2) sc0);obtain⟨y,hy⟩:=zg (l.getD (k0+(k2 - 1)) sc0);rw[hx]at LX TX GX;rw[hy]at LY YM GY;clear aj hx hy aU;go_upto_region 11 with fail;have aB:=fun W=>neq_sc GX.o GY.o W;have aC:=fun W=>vH .neq (.tmp 38) (.tmp 43) x y W;refine wp_region_quiet_below (by kernel_rfl) (by kernel_rfl) ?_;(repeat(go_big_quiet_want;go_big_quiet_op;first | go_big_quiet_on | (refine⟨_,fun _ _=>rfl,?_⟩;go_big_quiet_on)));refine zq b (k0*35+k2*35) rfl (cap*35) YT f (scC x) (fun W hW=>hR.below (aT hW)) NX.o LX.o ?_;simp only[Act.put,zu];(repeat(go_big_quiet_want;go_big_quiet_op;first | go_big_quiet_on | (refine⟨_,fun _ _=>rfl,?_⟩;go_big_quiet_on)));refine zq b (k0*35+(k2 - 1)*35) rfl (cap*35) YT f (scC y) (fun W hW=>hR.below (aT hW)) NY.o LY.o ?_;simp only[Act.put,zu];repeat(go_big_quiet_want;go_big_quiet_op;first | go_big_quiet_on | (refine⟨_,fun _ _=>rfl,?_⟩;go_big_quiet_on))
         refine wpQuiet_nil ?_;intro w2 ak;have O2:=zh (hO.trans (aG.of_below (aT ak)));have R2:=zh (hR.below (aT ak));clear ak hR hO aA q2 q5 aB aC;obtain⟨r,hr⟩:=zg ((!decide (x=y)));rw[hr]
         cases r with
         | true=>
           have k1:=hL.2.2;have aX:IntKind.i64.wrap ((kk:Int)+1)=(((kk+1:Nat)):Int):=(IntWalk.i64_in _ (by have :=QN.o;have :=ae.o;have :=af.o;omega)).trans (by omega);have q6:(kk:Int) < (n:Int):=(by have :=ae.o;have :=af.o;omega);have d4:decide ((kk:Int) < (n:Int))=true:=(by rw[decide_eq_true_iff];exact q6);have d5:decide (kk < n)=true:=(by rw[decide_eq_true_iff];have :=ae.o;have :=af.o;omega);have q7:=Ye k2;have q8:(k2:Int) < (nk:Int):=(by have :=af.o;omega);have q9:=Ye kk;clear k1 hr;go_wp2_with(with_reducible refine zS 50 ?_);refine zh (zP R2 (k0*35+k2*35) rfl YT (scC x) NX.o LX.o ?_);go_wp2_with(with_reducible refine zn ?_);refine zh ?_
           refine fC rfl 37 (.tmp 51) (.tmp 50) rfl b (kk*35) rfl (cap*35) 35 _ f (scC x) (fun q=>if(kk*35)≤q∧q < (kk*35)+35 then scC x (q - (kk*35))else f q) rfl R2.o (by have :=hL.2.2;have :=af.o;have :=ae.o;have :=HC.o;omega) (by kernel_rfl) (fun j _=>eG x j) (fun _ _=>rfl) ?_;intro w3 R3 O3;go_wp2_with fail;go_roundg(nk - (k2+1));case measure=>have :=af.o;omega
           case rel=>
            go_light;refine⟨k2+1,kk+1,K++[x],_,by have :=af.o;omega,by go_num,by go_num,zh ⟨by rw[Yf,←hL.1];rfl,by omega,by have :=hL.2.2;omega⟩,R3,zh (fun q hq z hz=>?_),zh (fun q hq aJ z hz=>?_),zh (fun z=>?_),zh (O2.trans O3.o)⟩
            · by_cases e:q=kk
              · subst e;rw[if_pos ⟨by omega,by omega⟩,show 35*q+z - q*35=z by omega];rw[Yd,Xb (by rw[←hL.1];exact Ya _),←hL.1,Nat.sub_self];rfl
              · rw[if_neg (by omega)];rw[hH.o q (by omega) z hz];congr 1;rw[Yd,Yd,Xd (by have :=hL.1;omega)]
            · rw[if_neg (by have :=hL.2.2;omega)];exact hT.o q (by omega) aJ z hz
            · rw[TX.o,Yt,Yt,hM.o z]
         | false=>
           have au:x=y:=by simpa using hr
           have M2:Hid (∀z,z∈K↔z∈l.take (k0+(k2+1))):=zh (fun z=>by
            rw[TX.o,hM.o z,Yt,Yp]
            exact⟨.inl,fun h=>h.elim id (fun e=>by rw[e,au];exact YM.o)⟩)
           clear hr au;go_wp2_with fail;go_roundg(nk - (k2+1));case measure=>have :=af.o;omega
           case rel=>
            go_light;exact⟨k2+1,kk,K,f,by have :=af.o;omega,rfl,by go_num,zh ⟨hL.1,by omega,by have :=hL.2.2;omega⟩,R2,hH,zh (fun q hq aJ=>hT.o q (by omega) aJ),M2,O2⟩
       · obtain⟨d0,d1⟩:=zk aj;obtain rfl:k2=nk:=(by omega);have e9:l.take (k0+k2)=l:=Yq (by rw[LN.o,ae.o];exact Ya _);have aV:=hL.2.2;have b1:(kk:Int)≤(n:Int):=(by have :=ae.o;omega);have b2:(n:Int)≤(cap:Int):=(by have :=HC.o;omega);have q3:=Ye kk;have q5:(kk:Int) < (cap:Int):=(by have :=ae.o;have :=HC.o;omega);have q6:kk < cap:=(by omega);have E9:=zh e9;clear aV aj e9;go_upto_region 14 with fail;clear d0 d1;go_wp2_with(with_reducible refine zn ?_);refine zh ?_;refine iZ rfl (.tmp 56) 32 37 rfl b (kk*35) (n - kk) (cap - kk) (cap*35) f rfl Tryz.underlying32 (.agg (ah 35 (scC sc0))) (fun w=>by kernel_rfl) (fun u hu=>by exact VO u hu) (by have :=hL.2.2;have :=ae.o;omega) hR.o (by have :=hL.2.2;have :=ae.o;have :=HC.o;show(kk*35)+(n - kk)*35≤cap*35;omega) ?_;intro w2 f2 R2 O2 F2;have O3:=zh (hO.trans O2.o);clear O2 hO hR;go_wp2_with fail;go_ret
         refine⟨_,K,rfl,ax.ofRow sc0 (by decide) aS.o R2.o hL.1 (by have :=hL.1;omega) HM.o (fun q hq z hz=>?_),fun z=>by rw[hM.o z,E9.o],by have :=hL.1;have :=hL.2.2;have :=ae.o;omega,⟨⟨O3.os,O3.tape,O3.output,O3.size,fun k hk aW=>O3.block k hk (fun e=>aW (by rw[e];rfl))⟩,.inl rfl⟩⟩;rw[F2.o _ (by have :=hL.1;omega),hH.o q (by have :=hL.1;omega) z hz]
    | false=>
      clear hr EY LX LY NX NY GX GY;go_wp2_with fail;go_roundg(n - (k+1));case measure=>have :=ai.o;omega
      case rel=>
       go_light;exact⟨k+1,by have :=ai.o;omega,by omega,by go_num,B2⟩
  · obtain⟨d0,d1⟩:=zk aj;clear aj hk;go_wp2_with fail;go_ret;exact⟨_,l,rfl,O0.below hB.o,fun x=>Iff.rfl,by rw[LN.o];exact Ya _,ay.of_below _ hB.o⟩
theorem Eo(l:List Int)(base:Nat)(v:Value)(w:World)(ho:ax 3 1 bC w base v l)(hn:l.length≤1000000):
 Calls Tryz.prog 208 #[v] w fun e w'=>∃u,∃l':List Int,e=.returned u∧ax 3 1 bC w' base u l'∧(∀x,x∈l'↔x∈l)∧l'.length≤l.length∧ay w v w' u:=by
 by_cases hv:v=.slice none 0 0
 · subst hv
   have hl:l=[]:=by
    obtain⟨a,k,e⟩:=ho.slice;have h0:l.length=0:=(Value.slice.inj e).2.1.symm;exact Yz h0
   subst hl;go_in;go_wp2_with fail;go_ret;exact⟨_,[],rfl,ax.nil _ _,fun x=>Iff.rfl,Ya _,ay.refl _ _⟩
 obtain⟨b,cap,f,rfl,hc,aF,hm,hr,hf⟩:=ho.OV (0:Int) hv;have R:=zh hr;have HF:=zh hf;have HC:=zh hc;have aN:=zh aF;have HM:=zh hm;have QN:=zh hn;have O0:=zh ho;obtain⟨n,au⟩:=zg l.length;have LN:=zh au;rw[au]at HF HC QN O0 ⊢;clear hr hf hc aF hm hn ho hv au;have B0:Hid (Below w.heap.size w w):=zh (Yb _ w);go_in;by_cases h2:n < 2
 · have d0:decide ((n:Int) < 2)=true:=zt (by omega);clear h2;go_wp2_with fail;go_ret;exact⟨_,l,rfl,O0.o,fun x=>Iff.rfl,by rw[LN.o];exact Ya _,ay.refl _ _⟩
 have d0:decide ((n:Int) < 2)=false:=zT (by omega);have H2:=zh h2;clear h2;go_wp2_with fail;clear d0;go_loopg [3] (n - 1) (fun g s3 wx=>∃k:Nat,k+g=n∧1≤k∧s3=.int .i64 (k:Int)∧Hid (Below w.heap.size w wx));case atStart=>exact⟨1,by have :=H2.o;omega,Ya _,rfl,B0⟩
 case round=>
  clear B0;obtain⟨k,hk,aI,rfl,hB⟩:=hrel;obtain⟨w1,rfl⟩:=zG wr;have q0:=Ye k;by_cases ah:k < n
  · obtain⟨d0,d1,-⟩:=zl ah;have ai:=zh ah;have aJ:=zh aI;have R1:=zh (R.below hB.o);have az:IntKind.i64.wrap ((k:Int) - 1)=(((k - 1:Nat)):Int):=(IntWalk.i64_in _ (by have :=QN.o;omega)).trans (by omega);have aK:IntKind.i64.wrap ((k:Int)+1)=(((k+1:Nat)):Int):=(IntWalk.i64_in _ (by have :=QN.o;omega)).trans (by omega);have q1:(0:Int)≤((k - 1:Nat):Int):=Ye _;have d2:decide (((k - 1:Nat):Int) < (n:Int))=true:=zt (by omega);have d3:decide (k - 1 < n)=true:=zt (by omega);have q4:(k:Int) < (n:Int):=(by omega);have q5:((k - 1:Nat):Int) < (n:Int):=(by omega);have LX:Hid (∀j,j < 1→f (k+j)=bC (l.getD k (0:Int)) j):=zh (fun j hj=>by rw[show k+j=1*k+j by omega];exact HF.o k ai.o j hj);have LY:Hid (∀j,j < 1→f ((k - 1)+j)=bC (l.getD (k - 1) (0:Int)) j):=zh (fun j hj=>by rw[show(k - 1)+j=1*(k - 1)+j by omega];exact HF.o (k - 1) (by have :=ai.o;omega) j hj)
    have NX:Hid (k+1≤cap*1):=zh (by have :=ai.o;have :=HC.o;omega);have NY:Hid ((k - 1)+1≤cap*1):=zh (by have :=ai.o;have :=HC.o;omega)
    have EY:Hid (l.getD k (0:Int)=l.getD (k - 1) (0:Int)→∀z,z∈l.take k↔z∈l.take (k+1)):=zh (fun he z=>by
     rw[aH (0:Int) l (show k < l.length by rw[LN.o];exact ai.o),Yt,Yp,he];refine⟨.inl,fun h=>h.elim id (fun e=>?_)⟩;subst e;obtain⟨q,hq⟩:∃q,k=q+1:=⟨k - 1,by have :=aJ.o;omega⟩;subst hq;rw[Nat.add_sub_cancel,aH (0:Int) l (show q < l.length by rw[LN.o];have :=ai.o;omega)]
     simp)
    obtain⟨x,hx⟩:=zg (l.getD k (0:Int));obtain⟨y,hy⟩:=zg (l.getD (k - 1) (0:Int));rw[hx]at LX EY;rw[hy]at LY EY;clear ah aI;go_upto_region 6 with fail;refine wp_region_quiet_below (by kernel_rfl) (by kernel_rfl) ?_;(repeat(go_big_quiet_want;go_big_quiet_op;first | go_big_quiet_on | (refine⟨_,fun _ _=>rfl,?_⟩;go_big_quiet_on)));refine zC b k rfl zC3 (.int .i64 x) (fun W hW=>by have h:=(R1.below (aT hW)).cell (i:=k+0) (by have :=NX.o;omega);rw[LX.o 0 (by decide),Nat.add_zero]at h;exact h) ?_;simp only[Act.put,zu];(repeat(go_big_quiet_want;go_big_quiet_op;first | go_big_quiet_on | (refine⟨_,fun _ _=>rfl,?_⟩;go_big_quiet_on)));refine zC b (k - 1) rfl zC3 (.int .i64 y) (fun W hW=>by have h:=(R1.below (aT hW)).cell (i:=(k - 1)+0) (by have :=NY.o;omega);rw[LY.o 0 (by decide),Nat.add_zero]at h;exact h) ?_;simp only[Act.put,zu]
    (repeat(go_big_quiet_want;go_big_quiet_op;first | go_big_quiet_on | (refine⟨_,fun _ _=>rfl,?_⟩;go_big_quiet_on)));refine wpQuiet_nil ?_;intro w2 aj;have B2:=zh (hB.trans ((aT aj).mono hB.size));clear aj R1 hB az q1 d2 d3 q5;obtain⟨r,hr⟩:=zg ((x==y));rw[hr]
    cases r with
    | true=>
      have ak:x=y:=(by simpa using hr);have MB:=zh (EY.o ak);have q6:(k:Int) < (cap:Int):=(by have :=HC.o;omega);have q7:k < cap:=(by have :=HC.o;omega);have q8:(n:Int)≤(cap:Int):=(by have :=HC.o;omega);have q9:(k:Int)≤(n:Int):=(by omega);clear ak EY hr LX LY NX NY aK;go_wp2_with fail;clear q6 q7 q8 q9 d0 d1 q4 q0;have OB:Hid (aG b w w2):=zh (aG.of_below B2.o);have R2:=zh (R.below B2.o);obtain⟨k0,aA⟩:=zg k;rw[aA]at MB ai aJ;rw[aA];have NK:=zh (show n - k0≤n by omega);obtain⟨nk,aB⟩:=zg (n - k0);have ae:=zh (show k0+nk=n by have :=ai.o;omega);rw[aB]at NK;rw[aB];clear aA aB hk B2
      go_loopg [3,5] (nk - 1) (fun g s3 s5 wx=>∃(k2 kk:Nat) (K:List Int) (f:Nat→Value),k2+g=nk∧s3=.int .i64 (kk:Int)∧s5=.int .i64 (k2:Int)∧Hid (kk=K.length∧1≤k2∧kk+1≤k0+k2)∧Hid (ag wx b 3 (cap*1) f)∧
       Hid (∀q,q < kk→∀z,z < 1→f (1*q+z)=bC (K.getD q (0:Int)) z)∧Hid (∀q,k0+k2≤q+1→q < n→∀z,z < 1→f (1*q+z)=bC (l.getD q (0:Int)) z)∧Hid (∀z,z∈K↔z∈l.take (k0+k2))∧Hid (aG b w wx))
      case atStart=>
       have h1:=ai.o;have h2:=ae.o;refine⟨1,k0,l.take k0,f,by omega,rfl,rfl,zh ⟨by rw[Yu,LN.o];omega,Ya _,Ya _⟩,R2,zh (fun q hq z hz=>?_),zh (fun q _ hq z hz=>HF.o q hq z hz),MB,OB⟩;rw[HF.o q (by omega) z hz];congr 1;rw[Yd,Yd,Yy hq]
      case round=>
       clear MB R2 OB;obtain⟨k2,kk,K,f,hg,rfl,rfl,hL,hR,hH,hT,hM,hO⟩:=hrel;obtain⟨w1,rfl⟩:=zG wr;have q0:=Ye k2;have q1:=Ye kk;by_cases ah:k2 < nk
       · obtain⟨d0,d1,q4,-⟩:=zl ah;have af:=zh ah;have aO:=hL.2.1;have az:IntKind.i64.wrap ((k2:Int) - 1)=(((k2 - 1:Nat)):Int):=(IntWalk.i64_in _ (by have :=QN.o;have :=ae.o;omega)).trans (by omega);have aK:IntKind.i64.wrap ((k2:Int)+1)=(((k2+1:Nat)):Int):=(IntWalk.i64_in _ (by have :=QN.o;have :=ae.o;omega)).trans (by omega);have q2:(0:Int)≤((k2 - 1:Nat):Int):=Ye _;have q5:((k2 - 1:Nat):Int) < (nk:Int):=(by omega);have LX:Hid (∀j,j < 1→f ((k0+k2)+j)=bC (l.getD (k0+k2) (0:Int)) j):=zh (fun j hj=>by rw[show(k0+k2)+j=1*(k0+k2)+j by omega];exact hT.o (k0+k2) (by omega) (by have :=ae.o;have :=af.o;omega) j hj);have LY:Hid (∀j,j < 1→f ((k0+(k2 - 1))+j)=bC (l.getD (k0+(k2 - 1)) (0:Int)) j):=zh (fun j hj=>by rw[show(k0+(k2 - 1))+j=1*(k0+(k2 - 1))+j by omega];exact hT.o (k0+(k2 - 1)) (by have :=hL.2.1;omega) (by have :=ae.o;have :=af.o;omega) j hj)
         have NX:Hid ((k0+k2)+1≤cap*1):=zh (by have :=af.o;have :=ae.o;have :=HC.o;omega);have NY:Hid ((k0+(k2 - 1))+1≤cap*1):=zh (by have :=af.o;have :=ae.o;have :=HC.o;omega);have TX:Hid (l.take (k0+(k2+1))=l.take (k0+k2)++[l.getD (k0+k2) (0:Int)]):=zh (by rw[←Nat.add_assoc];exact aH (0:Int) l (by rw[LN.o];have :=af.o;have :=ae.o;omega))
         have YM:Hid (l.getD (k0+(k2 - 1)) (0:Int)∈l.take (k0+k2)):=zh (by
          have h2:=hL.2.1;obtain⟨q,hq⟩:∃q,k0+k2=q+1:=⟨k0+k2 - 1,by omega⟩;rw[hq,show k0+(k2 - 1)=q by omega,aH (0:Int) l (by rw[LN.o];have :=af.o;have :=ae.o;omega)]
          simp)
         obtain⟨x,hx⟩:=zg (l.getD (k0+k2) (0:Int));obtain⟨y,hy⟩:=zg (l.getD (k0+(k2 - 1)) (0:Int));rw[hx]at LX TX;rw[hy]at LY YM;clear ah hx hy aO;go_upto_region 11 with fail;refine wp_region_quiet_below (by kernel_rfl) (by kernel_rfl) ?_;(repeat(go_big_quiet_want;go_big_quiet_op;first | go_big_quiet_on | (refine⟨_,fun _ _=>rfl,?_⟩;go_big_quiet_on)));refine zC b (k0+k2) rfl zC3 (.int .i64 x) (fun W hW=>by have h:=(hR.below (aT hW)).cell (i:=(k0+k2)+0) (by have :=NX.o;omega);rw[LX.o 0 (by decide),Nat.add_zero]at h;exact h) ?_;simp only[Act.put,zu];(repeat(go_big_quiet_want;go_big_quiet_op;first | go_big_quiet_on | (refine⟨_,fun _ _=>rfl,?_⟩;go_big_quiet_on)));refine zC b (k0+(k2 - 1)) rfl zC3 (.int .i64 y) (fun W hW=>by have h:=(hR.below (aT hW)).cell (i:=(k0+(k2 - 1))+0) (by have :=NY.o;omega);rw[LY.o 0 (by decide),Nat.add_zero]at h;exact h) ?_;simp only[Act.put,zu]
         (repeat(go_big_quiet_want;go_big_quiet_op;first | go_big_quiet_on | (refine⟨_,fun _ _=>rfl,?_⟩;go_big_quiet_on)));refine wpQuiet_nil ?_;intro w2 aj;have O2:=zh (hO.trans (aG.of_below (aT aj)));have R2:=zh (hR.below (aT aj));clear aj hR hO az q2 q5;obtain⟨r,hr⟩:=zg ((x !=y));rw[hr]
         cases r with
         | true=>
           have k1:=hL.2.2;have aS:IntKind.i64.wrap ((kk:Int)+1)=(((kk+1:Nat)):Int):=(IntWalk.i64_in _ (by have :=QN.o;have :=ae.o;have :=af.o;omega)).trans (by omega);have q6:(kk:Int) < (n:Int):=(by have :=ae.o;have :=af.o;omega);have d4:decide ((kk:Int) < (n:Int))=true:=(by rw[decide_eq_true_iff];exact q6);have d5:decide (kk < n)=true:=(by rw[decide_eq_true_iff];have :=ae.o;have :=af.o;omega);have q7:=Ye k2;have q8:(k2:Int) < (nk:Int):=(by have :=af.o;omega);have q9:=Ye kk;clear k1 hr;have lk:w2.cell? ⟨b,k0+k2,none⟩=some (.int .i64 x):=(by have h:=R2.cell (i:=k0+k2+0) (by have :=NX.o;omega);rw[LX.o 0 (by decide),Nat.add_zero]at h;exact h);have f0:=R2.frozen kk;have xk:∃u,w2.cell? ⟨b,kk,none⟩=some u:=⟨_,R2.cell (i:=kk) (by have :=hL.2.2;have :=af.o;have :=ae.o;have :=HC.o;omega)⟩;obtain⟨xu,xk⟩:=xk;go_wp2_with fail;have R3:=zh (R2.set kk (.int .i64 x))
           have O3:=zh ((aG.refl b w2).setCell (p:=⟨b,kk,none⟩) (.inl rfl) (.int .i64 x));go_roundg(nk - (k2+1));case measure=>have :=af.o;omega
           case rel=>
            go_light;refine⟨k2+1,kk+1,K++[x],_,by have :=af.o;omega,by go_num,by go_num,zh ⟨by rw[Yf,←hL.1];rfl,by omega,by have :=hL.2.2;omega⟩,R3,zh (fun q hq z hz=>?_),zh (fun q hq aC z hz=>?_),zh (fun z=>?_),zh (O2.trans O3.o)⟩
            · by_cases e:q=kk
              · subst e;rw[if_pos (by omega)];rw[Yd,Xb (by rw[←hL.1];exact Ya _),←hL.1,Nat.sub_self];rfl
              · rw[if_neg (by omega)];rw[hH.o q (by omega) z hz];congr 1;rw[Yd,Yd,Xd (by have :=hL.1;omega)]
            · rw[if_neg (by have :=hL.2.2;omega)];exact hT.o q (by omega) aC z hz
            · rw[TX.o,Yt,Yt,hM.o z]
         | false=>
           have ak:x=y:=by simpa using hr
           have M2:Hid (∀z,z∈K↔z∈l.take (k0+(k2+1))):=zh (fun z=>by
            rw[TX.o,hM.o z,Yt,Yp]
            exact⟨.inl,fun h=>h.elim id (fun e=>by rw[e,ak];exact YM.o)⟩)
           clear hr ak;go_wp2_with fail;go_roundg(nk - (k2+1));case measure=>have :=af.o;omega
           case rel=>
            go_light;exact⟨k2+1,kk,K,f,by have :=af.o;omega,rfl,by go_num,zh ⟨hL.1,by omega,by have :=hL.2.2;omega⟩,R2,hH,zh (fun q hq aC=>hT.o q (by omega) aC),M2,O2⟩
       · obtain⟨d0,d1⟩:=zk ah;obtain rfl:k2=nk:=(by omega);have e9:l.take (k0+k2)=l:=Yq (by rw[LN.o,ae.o];exact Ya _);have aP:=hL.2.2;have b1:(kk:Int)≤(n:Int):=(by have :=ae.o;omega);have b2:(n:Int)≤(cap:Int):=(by have :=HC.o;omega);have q3:=Ye kk;have q5:(kk:Int) < (cap:Int):=(by have :=ae.o;have :=HC.o;omega);have q6:kk < cap:=(by omega);have E9:=zh e9;clear aP ah e9;go_upto_region 14 with fail;clear d0 d1;go_wp2_with(with_reducible refine zn ?_);refine zh ?_;refine iZ rfl (.tmp 56) 40 3 rfl b kk (n - kk) (cap - kk) (cap*1) f rfl Tryz.underlying40 (.int .i64 0) (fun w=>by kernel_rfl) (fun u hu=>by simp[Value.cells]at hu;subst hu;rfl) (by have :=hL.2.2;have :=ae.o;omega) hR.o (by have :=hL.2.2;have :=ae.o;have :=HC.o;show kk+(n - kk)*1≤cap*1;omega) ?_;intro w2 f2 R2 O2 F2;have O3:=zh (hO.trans O2.o);clear O2 hO hR;go_wp2_with fail;go_ret
         refine⟨_,K,rfl,ax.ofRow (0:Int) (by decide) aN.o R2.o hL.1 (by have :=hL.1;omega) HM.o (fun q hq z hz=>?_),fun z=>by rw[hM.o z,E9.o],by have :=hL.1;have :=hL.2.2;have :=ae.o;omega,⟨⟨O3.os,O3.tape,O3.output,O3.size,fun k hk aQ=>O3.block k hk (fun e=>aQ (by rw[e];rfl))⟩,.inl rfl⟩⟩;rw[F2.o _ (by have :=hL.1;omega),hH.o q (by have :=hL.1;omega) z hz]
    | false=>
      clear hr EY LX LY NX NY;go_wp2_with fail;go_roundg(n - (k+1));case measure=>have :=ai.o;omega
      case rel=>
       go_light;exact⟨k+1,by have :=ai.o;omega,by omega,by go_num,B2⟩
  · obtain⟨d0,d1⟩:=zk ah;clear ah hk;go_wp2_with fail;go_ret;exact⟨_,l,rfl,O0.below hB.o,fun x=>Iff.rfl,by rw[LN.o];exact Ya _,ay.of_below _ hB.o⟩
theorem jD{P:Program}(w:World)(g:Nat)(T ty:TypeId)(v:Value)(hg:ag w g T 1 (fun _=>v))(ha:∀w,(isAgg ty).run P w=.ok false w):(loadVar ty ⟨g,0,none⟩).run P w=.ok v w:=by
 have hc:=hg.cell (i:=0) (by decide);unfold loadVar;simp only[Sem.run_bind,ha,Result.andThen_ok,Bool.false_eq_true,if_false];simp[load,Sem.run,hc]
theorem iC{P:Program}{fn:Func}{p u:Tmp}{ty:TypeId}(h:fn.results= #[.cell p ty,.tmp u])(tmps:Array Value)(w:World)(g:Nat)(T:TypeId)(v:Value)
 (hp:tmps.getD p undef=.pointer (some ⟨g,0,none⟩)) (hr:ag w g T 1 (fun _=>v)) (ha:∀w,(isAgg ty).run P w=.ok false w):
 (results fn tmps).run P w=.ok (.tuple #[v,tmps.getD u undef]) w:=by
 rw[results_cell_tmp h,hp];simp[asAddr,jD w g T ty v hr ha]
theorem up_any(n:Int)(w:World):Calls Tryz.prog 266 #[.int .i64 n] w fun e w'=>e=.returned (.func (.func 283) #[] #[.pointer (some ⟨w.heap.size,0,none⟩)])∧w'=w.alloc (.cells #[.int .i64 n] 362):=by
 have ae:=zM Tryz.prog;go_in;go_wp2_with fail;go_ret;exact⟨rfl,rfl⟩
theorem Ku:∀(f n:Nat),(upN f n).length≤f
 | 0,_=>Ya _
 | f+1,n=>by
   unfold upN;split
   · have :=Ku f (n / 2);simp;omega
   · simp
theorem Su{w W W':World}{base bx B:Nat}{l:List Int}(h:ApI 3 40 1 bC w base bx (.slice none 0 0) l W)(ob:aG B W W')(h1:bx≠B)(h2:B < base)(h3:w.heap.size≤B):ApI 3 40 1 bC w base bx (.slice none 0 0) l W':=by
 obtain⟨u,r,o,s⟩:=h;refine⟨u,ob.row h1 r,o.only ob (fun b hb e=>by have :=(o.lt b hb).1;omega),⟨ob.os.trans s.1.os,ob.tape.trans s.1.tape,ob.output.trans s.1.output,Yc s.1.size ob.size,fun k hk ae=>(ob.block k (Yg hk s.1.size) (by omega)).trans (s.1.block k hk ae)⟩,s.2⟩
theorem yP(gf:Nat)(gI:Nat→Int)(d:Int)(w:World)(eg:∀args w,(callFunc gf args).run Tryz.prog w=.ok (.enter gf args) w)(hg:∀(x:Nat) W,Calls Tryz.prog gf #[.int .i64 (x:Int)] W fun e w'=>e=.returned (.int .i64 (gI x))∧W=w'):
 Calls Tryz.prog 242 #[.int .i64 d,.func (.func gf) #[] #[]] w fun e w'=>∃u,e=.returned (.tuple #[u,.int .i64 (kS d)])∧ax 3 1 bC w' w.heap.size u (if dS d then(upN 11 (512+d).toNat).map fun x=>gI x else [])∧Below w.heap.size w w':=by
 have HG:=zh hg;have EG:=zh eg;have LF:=zh (fun W=>wQ d W);obtain⟨R,hR⟩:=zg ((if dS d then(upN 11 (512+d).toNat).map fun x=>gI x else []));have HR:=zh hR;obtain⟨V,hV⟩:=zg (kC d);obtain⟨E,hE⟩:=zg (kS d);have HV:=zh hV;have HE:=zh hE;rw[hV,hE]at LF;rw[hR,hE];clear hg eg hR hV hE;refine dX Tryz.func242 rfl ?_;simp only[Tryz.ntmps242,List.size_toArray,Yr,Xc,Nat.reduceAdd,Nat.reduceSub,Array.replicate_succ,Array.replicate_zero,List.push_toArray,List.append_toArray,List.nil_append,List.cons_append];have B0:=zh (Yb w.heap.size w);go_upto_region 1 with fail;obtain⟨w1,ai,b1,z1,G1⟩:=zQ w (.cells #[.func (.func gf) #[] #[]] 360) 360 1 (fun _=>.func (.func gf) #[] #[]) rfl;rw[ai];(try rw[z1]);have B1:=zD B0 b1;clear b1 ai z1 B0;have L1:=zh G1.lt;obtain⟨w2,ak,b2,z2,Z2⟩:=zQ w1 (.cells #[.slice none 0 0] 40) 40 1 (fun _=>.slice none 0 0) rfl;rw[ak];(try rw[z2]);have B2:=zD B1 b2
 have G2:=zh (G1.below b2);clear b2 ak z2 B1 G1;go_wp2_with fail;refine(LF.o _).mono ?_;rintro e wp ⟨rfl,rfl⟩
 cases hd:dS d with
 | false=>
   obtain rfl:E=200:=(by rw[←HE.o];unfold kS;rw[hd];rfl);obtain rfl:V=0:=(by rw[←HV.o];unfold kC;rw[hd];rfl);obtain rfl:R=[]:=(by rw[←HR.o,hd];rfl);have x0:=Z2.cell (i:=0) (by decide);have f0:=Z2.frozen 0;have ob:=(aG.refl w1.heap.size w2).setCell (p:=⟨w1.heap.size,0,none⟩) (.inl rfl) (.slice none 0 0);have Z3:Hid (ag (w2.setCell ⟨w1.heap.size,0,none⟩ (.slice none 0 0)) w1.heap.size 40 1 (fun _=>.slice none 0 0)):=zh ((Z2.set 0 _).congr (fun i hi=>by match i,hi with | 0,_=>rfl));have B3:=zh (B2.trans (ob.below (Yv L1.o) B2.size));clear LF HG EG hd G2 HE HV HR ob;go_wp2_with fail;refine⟨_,iC (fn:=Tryz.f242) (p:=4) (u:=5) (ty:=40) rfl _ _ w1.heap.size 40 _ rfl Z3.o Tryz.isAgg40,_,rfl,ax.nil _ _,B3.o⟩
 | true=>
   obtain rfl:E=0:=(by rw[←HE.o];unfold kS;rw[hd];rfl);have hD:=(jT d).1 hd;unfold fM at hD;obtain⟨m,hm⟩:∃m:Nat,512+d=(m:Int):=⟨(512+d).toNat,by omega⟩;obtain rfl:V=(m:Int):=(by rw[←HV.o];unfold kC;rw[hd,if_pos rfl,hm]);obtain rfl:R=(upN 11 m).map fun x=>gI x:=(by rw[←HR.o,hd,if_pos rfl,hm];rfl);have HM:=zh (show m < 2048 by omega);clear LF hd HE HV HR hD hm;go_wp2_with fail;refine(up_any _ _).mono ?_;rintro e w3 ⟨rfl,rfl⟩;have N2:Hid (ag (w2.alloc (.cells #[.int .i64 (m:Int)] 362)) w2.heap.size 362 1 (fun _=>.int .i64 (m:Int))):=zh (ag.new w2 362 1 (fun _=>.int .i64 (m:Int)));have b3:Below w2.heap.size w2 (w2.alloc (.cells #[.int .i64 (m:Int)] 362)):=(Yb _ _).alloc (Ya _) _;obtain⟨w3,au⟩:=zg (w2.alloc (.cells #[.int .i64 (m:Int)] 362));rw[au]at b3 N2 ⊢;have G3:=zh (G2.below b3);have Z3:=zh (Z2.below b3);have B3:=zD B2 b3;have L3:=zh (show w1.heap.size < w2.heap.size from Z2.lt)
   have L4:=zh N2.lt;clear au b3 G2 Z2 B2;go_wp2_with fail;have AI:Hid (ApI 3 40 1 bC w w3.heap.size w1.heap.size (.slice none 0 0) ([].map fun x:Nat=>gI x) w3):=zh ⟨_,Z3.o,ax.nil _ _,ay.of_below _ B3.o⟩;have UC:=zh (Ws 4 w2.heap.size m w3 HM.o N2.o);obtain⟨I,hI⟩:∃I:List Nat→World→Prop,I=fun pre W=>ApI 3 40 1 bC w w3.heap.size w1.heap.size (.slice none 0 0) (pre.map fun x:Nat=>gI x) W∧ag W w.heap.size 360 1 (fun _=>.func (.func gf) #[] #[])∧w3.heap.size≤W.heap.size:=⟨_,rfl⟩;have I0:I [] w3:=by rw[hI];exact⟨AI.o,G3.o,Ya _⟩
   have OI:OwnFrom w3.heap.size I:=by
    rw[hI];intro s A C row hs hg hr;obtain⟨⟨u,h1,h2,h3⟩,h4,h5⟩:=hs;exact⟨⟨u,fV h1 hg hr,h2.grow hg hr,h3.grow hg hr B3.size⟩,fV h4 hg hr,Yc h5 hg.size⟩
   have DI:Deaf w2.heap.size I:=by
    rw[hI];intro s A C hs ob;have :=L1.o;have :=L3.o;exact⟨Su hs.1 ob (by omega) L4.o (by omega),ob.row (by omega) hs.2.1,Yc hs.2.2 ob.size⟩
   refine(wpIn_wide (n:=5)).1 (ug rfl (by decide) (gf:=283) (lb:= #[.pointer (some ⟨w2.heap.size,0,none⟩)]) rfl trivial (enters_of Tryz.func283 (by kernel_rfl) rfl) UC.o L4.o (fun h k=>k.trans h) (fun W l o o' hl _ _ _=>World.putObj_heap_other (by have :=L4.o;omega)) (Yb _ w3) (fun _=>rfl) I OI DI I0 (fun x=>{tmps:= #[.int .i64 d,.func (.func gf) #[] #[],undef,.pointer (some ⟨w.heap.size,0,none⟩),.pointer (some ⟨w1.heap.size,0,none⟩),.int .i64 0,.int .i64 (m:Int),.int .i64 (x:Int),.tuple #[.int .i64 (m:Int),.int .i64 0],.int .i64 d,.tuple #[.int .i64 (m:Int),.int .i64 0],.int .i64 (m:Int),.int .i64 0,.int .i64 0,.bool false,undef,.int .i64 (m:Int),.func (.func 283) #[] #[.pointer (some ⟨w2.heap.size,0,none⟩)],.int .i64 (x:Int),undef,undef,undef,undef,undef,undef,undef],defers:=[]}) ?assign ?body ?done)
   case assign=>
    intro l x W K hK;refine bU (fun⟨_,_,h⟩=>h) rfl ?_;have HK:=zh hK;clear hK;go_wp2_with fail;exact HK.o
   case body=>
    intro l pre x W af hlen;rw[hI]at af;obtain⟨⟨u,h1,h2,h3⟩,h4,h5⟩:=af;have SW:=zh h5;have HI:=zh hI;have R1:=zh h1;have O1:=zh h2;have A1:=zh h3;have G1:=zh h4;have CL:=zh (fun W'=>HG.o x W');have az:Hid ((pre.map fun x:Nat=>gI x).length+1≤1000000):=zh (by rw[Yk];have h:=hlen;have h9:(upN 11 m).length≤11:=Ku 11 m;omega);have MP:Hid ((pre++[x]).map (fun x:Nat=>gI x)=(pre.map fun x:Nat=>gI x)++[gI x]):=zh (by rw[Yn];rfl);obtain⟨ps,aA⟩:=zg ((pre.map fun x:Nat=>gI x));rw[aA]at O1 az MP;obtain⟨ua,uc,rfl⟩:=O1.slice;clear h1 h2 h3 h4 h5 hlen HG I0 OI DI hI aA;refine wpIn_block (Tc.kW (Tc.Rl.stay (fun k=>k=w1.heap.size∨k=w.heap.size)) 6 [] (.fl 0 (.fl 1 (.fl 2 (.one 3 (.one 4 (.one 5 .done)))))) (fun⟨_,_,h⟩=>h) rfl (by kernel_rfl) (by kernel_rfl) ?_);intro w4 b4 e4;have R4:=zh (R1.below b4);have O4:=zh (O1.below b4);have G4:=zh (G1.below b4);have B4:=zh b4;clear b4 e4
    refine Tc.aj [0,1,2] [_,_,_] rfl ?_;dsimp only[zx,zy,zz];refine zC w1.heap.size 0 rfl Za (.slice ua ps.length uc) (fun W hW=>(aJ (S:=fun k=>k=w1.heap.size∨k=w.heap.size) R4.o (.inl rfl) hW).cell (i:=0) (by decide)) ?_;simp only[Act.put,zu];refine zC w.heap.size 0 rfl zC360 (.func (.func gf) #[] #[]) (fun W hW=>(aJ (S:=fun k=>k=w1.heap.size∨k=w.heap.size) G4.o (.inr rfl) hW).cell (i:=0) (by decide)) ?_;simp only[Act.put,zu];(repeat(go_big_quiet_want;go_big_quiet_op;first | go_big_quiet_on | (refine⟨_,fun _ _=>rfl,?_⟩;go_big_quiet_on)));refine wpQuiet_nil ?_;have eg:=EG.o;refine Tc.ae 3 rfl (fun K hK=>?_);go_wp2_with fail;refine(CL.o _).mono ?_;rintro e w5 ⟨rfl,rfl⟩;go_wp2_with fail;refine hK _ _ (fun _ _=>rfl) ?_;clear hK K eg CL;refine Tc.ae 4 rfl (fun K hK=>?_);go_wp2_with fail;have al:Below w4.heap.size w4 (w4.alloc (.cells #[.int .i64 (gI x)] 3)):=(Yb _ w4).alloc (Ya _) _
    have X5:Hid (ag (w4.alloc (.cells #[.int .i64 (gI x)] 3)) w4.heap.size 3 1 (bC (gI x))):=zh (ag.new w4 3 1 (bC (gI x)));refine hK _ _ (aC al (fun k hk=>by rcases hk with rfl | rfl;exact R4.lt;exact G4.lt)) ?_;obtain⟨w5,aH⟩:=zg (w4.alloc (.cells #[.int .i64 (gI x)] 3));rw[aH]at al X5 ⊢;have O5:=zh (O4.below al);have R5:=zh (R4.below al);have G5:=zh (G4.below al);have B5:=zD B4 al;clear hK K al aH O4 R4 G4 B4;refine Tc.ae 5 rfl (fun K hK=>?_)
    refine bH rfl (.tmp 19) (.tmp 23) wK Tryz.underlying40 rfl (by decide) (by decide) (fun u j=>rfl) (0:Int) rfl w3.heap.size (.slice ua ps.length uc) ps rfl O5.o w4.heap.size 1 [gI x] rfl (fun i hi j hj=>by
     obtain rfl:i=0:=(by simp at hi;exact hi);rw[Nat.mul_zero,Yl]
     exact X5.cell hj) (by have h1:=az.o;show ps.length+1≤1000000;omega) (Yc SW.o B5.size) ?_
    intro v6 w6 O6 s6;go_wp2_with fail;have R6:=zh (s6.row R5.o (fun e=>bM (by decide) O5.o R5.o _ e rfl));have G6:=zh (s6.row G5.o (fun e=>bM (by decide) O5.o G5.o _ e rfl))
    refine hK _ _ (fun k hk=>by
     rcases hk with rfl | rfl
     · exact s6.block R5.lt (fun e=>bM (by decide) O5.o R5.o _ e rfl)
     · exact s6.block G5.lt (fun e=>bM (by decide) O5.o G5.o _ e rfl)) ?_
    clear hK K;obtain⟨e1,e2⟩:=BQ (T:=3) (Ts:=40) (by decide) (Yv L1.o) R1.o O1.o A1.o O6.o ((ay.of_below _ B5.o).trans s6.o);have E1:=zh e1;have NB:Hid (w6.heap[w2.heap.size]? =W.heap[w2.heap.size]?):=zh ((s6.block (Yg L4.o (Yc SW.o B5.size)) (fun e=>by have :=(O5.lt _ e).1;have :=L4.o;omega)).trans (B5.block _ (Yg L4.o SW.o)));have KF:Hid (KeepsFrom w3.heap.size W w6):=zh ((show KeepsFrom w3.heap.size W w5 from⟨B5.size,fun k o _ hk _=>(B5.block k (Yi.1 hk).1).trans hk⟩).trans ((KeepsOthers.of_grownBy s6.1 (fun j o e ho=>wG O5.o j o e ho)).from _));have S6:=zh (Yc SW.o (Yc B5.size s6.1.size));obtain⟨va,vc,rfl⟩:=O6.slice;have x6:=R6.cell (i:=0) (by decide);have f6:=R6.frozen 0;rw[show(ps++[gI x]).length=ps.length+1 from by simp]at E1 ⊢;clear e1 e2 s6 O5 R5 G5 B5 X5 O6 R1 O1 A1 G1 SW;refine Tc.aF (l:=[_]) rfl (fun K hK=>?_);go_wp2_with fail
    have ob:=(aG.refl w1.heap.size w6).setCell (p:=⟨w1.heap.size,0,none⟩) (.inl rfl) (.slice va (ps.length+1) vc);have ko:=KeepsOthers.setCell w6 ⟨w1.heap.size,0,none⟩ (.slice va (ps.length+1) vc);refine⟨KF.trans (ko.from _),(ob.block _ (by have :=S6.o;have :=L4.o;omega) (by have :=L3.o;omega)).trans NB.o,?_⟩;rw[HI.o];refine⟨?_,ob.row (by have :=L1.o;omega) G6.o,Yc S6.o ob.size⟩;rw[MP.o];exact E1.o
   case done =>
    intro D xs W hD hS af hK;rw[hI]at af;obtain⟨⟨u,h1,h2,h3⟩,h4,h5⟩:=af;obtain⟨ua,uc,rfl⟩:=h2.slice;have HL:=zh (show w.heap.size≤D from Yc B3.size hD);have x0:=h1.cell (i:=0) (by decide);have f0:=h1.frozen 0;have ob:=(aG.refl w1.heap.size W).setCell (p:=⟨w1.heap.size,0,none⟩) (.inl rfl) (.slice ua (xs.map fun x:Nat=>gI x).length uc);have Z4:Hid (ag (W.setCell ⟨w1.heap.size,0,none⟩ (.slice ua (xs.map fun x:Nat=>gI x).length uc)) w1.heap.size 40 1 (fun _=>.slice ua (xs.map fun x:Nat=>gI x).length uc)):=zh ((h1.set 0 _).congr (fun i hi=>by match i,hi with | 0,_=>rfl));have O4:=zh (h2.aB h1 (by decide) ob);have D4:=zh ((ob.block D (Yi.1 hK).1 (fun e=>by subst e;rw[show W.heap[w1.heap.size]? =_ from h1]at hK;cases hK)).trans hK);have B4:=zh ((aO h3 (Ya _) (fun k e=>by cases e)).trans (ob.below (Yv L1.o) h3.1.size));have HS:Hid (xs=upN 11 m):=zh hS
    obtain⟨q,hq⟩:=zg ((xs.map fun x:Nat=>gI x).length);rw[hq]at x0 Z4 O4 B4 D4;clear h1 h2 h3 h4 h5 hK hD hS ob;go_wp2_with fail;have hK:=D4.o;refine⟨by simp,.inl ⟨_,_,rfl,run_takeDeferred hK,?_⟩⟩;have gp:=grownBy_putObj' (W.setCell ⟨w1.heap.size,0,none⟩ (.slice ua q uc)) D (.deferred none);have Z5:=fV Z4.o gp (B:=0) (fun r e=>by cases e;exact⟨Nat.zero_le _,_,hK,rfl⟩);have ah:=iC (P:=Tryz.prog) (fn:=Tryz.f242) (p:=4) (u:=5) (ty:=40) rfl;refine⟨_,ah _ _ w1.heap.size 40 (.slice ua q uc) rfl Z5 Tryz.isAgg40,.slice ua q uc,rfl,?_,?_⟩
    · rw[←HS.o];exact(O4.mono B3.size).grow (B:=0) gp (fun r e=>by cases e;exact⟨Nat.zero_le _,_,hK,rfl⟩)
    · exact B4.grown gp B4.size (fun k e=>by cases e;exact HL.o)
theorem Qs:∀(j f n:Nat),j < f→2^j≤n→n < 2^(j+1)→upN f n=(List.range j).map fun k=>n / 2^k
 | _,0,_,h,_,_=>absurd h (Nat.not_lt_zero _)
 | 0,f+1,n,_,h1,h2=>by
   have :n=1:=(by simp at h1 h2;omega);subst this;simp[upN]
 | j+1,f+1,n,h,h1,h2=>by
   have e1:2^(j+1)=2*2^j:=(by rw[Nat.pow_succ];omega);have e2:2^(j+1+1)=4*2^j:=(by rw[Nat.pow_succ,Nat.pow_succ];omega);have e3:0 < 2^j:=Nat.pow_pos (by decide);have ih:=Qs j f (n / 2) (by omega) (by omega) (by omega);unfold upN;rw[if_pos (by omega),ih,List.range_succ_eq_map,Yw,List.map_map];congr 1
   · simp
   · apply List.map_congr_left;intro k _;show n / 2 / 2^k=n / 2^(k+1);rw[Nat.div_div_eq_div_mul,Nat.pow_succ,Ym]
theorem XC{d:Int}{m:Nat}(h:512+d=(m:Int))(k:Nat):anc d k=((m / 2^k:Nat):Int):=by
 unfold anc;rw[h];simp[Int.natCast_ediv,Int.natCast_pow]
def bW(d:Int):List Int:=(List.range 9).map fun k=>anc d (k+1)
def vZ(z:Int):Int:=if z % 2=0 then z+1 else z - 1
def Jf(d:Int):List Int:=(List.range 9).map fun k=>vZ (anc d k)
theorem IW(n:Nat)(w:World):Calls Tryz.prog 243 #[.int .i64 (n:Int)] w fun e w'=>e=.returned (.int .i64 (IntKind.i64.wrap ((n:Int).tdiv 2)))∧w=w':=by
 obtain⟨m,hm⟩:∃y:Int,IntKind.i64.wrap ((n:Int).tdiv 2)=y:=⟨_,rfl⟩;obtain⟨k,hk⟩:∃y:Int,(n:Int)=y:=⟨_,rfl⟩;rw[hm];rw[hk]at hm ⊢;clear hk;go_in;go_wp2_with fail;go_ret;exact⟨rfl,rfl⟩
theorem Ei(n:Nat)(w:World):Calls Tryz.prog 245 #[.int .i64 (n:Int)] w fun e w'=>e=.returned (.int .i64 (bits .xor .i64 (n:Int) 1))∧w=w':=by
 obtain⟨m,hm⟩:∃y:Int,bits .xor .i64 (n:Int) 1=y:=⟨_,rfl⟩;obtain⟨k,hk⟩:∃y:Int,(n:Int)=y:=⟨_,rfl⟩;rw[hm];rw[hk]at hm ⊢;clear hk;go_in;go_wp2_with fail;go_ret;exact⟨rfl,rfl⟩
theorem JR(d:Int)(hd:dS d=true)(g:Nat→Int)(h:Int→Int)(hg:∀n:Nat,n < 2048→g n=h (n:Int)):(upN 11 (512+d).toNat).map g=(List.range 9).map fun k=>h (anc d k):=by
 have hD:=(jT d).1 hd;unfold fM at hD;obtain⟨m,hm⟩:∃m:Nat,512+d=(m:Int):=⟨(512+d).toNat,by omega⟩;rw[show(512+d).toNat=m by omega,Qs 9 11 m (by decide) (by simp;omega) (by simp;omega),List.map_map];apply List.map_congr_left;intro k _;show g (m / 2^k)=h (anc d k);rw[XC hm,hg _ (Nat.lt_of_le_of_lt (Nat.div_le_self _ _) (by omega))]
theorem FP(d:Int)(w:World):Calls Tryz.prog 206 #[.int .i64 d] w fun e w'=>∃u,e=.returned (.tuple #[u,.int .i64 (kS d)])∧ax 3 1 bC w' w.heap.size u (if dS d then bW d else [])∧Below w.heap.size w w':=by
 have C:=zh (yP 243 (fun n=>IntKind.i64.wrap ((n:Int).tdiv 2)) d w (enters_of Tryz.func243 (by kernel_rfl) rfl) (fun x W=>IW x W))
 have E:(if dS d then(upN 11 (512+d).toNat).map (fun n:Nat=>IntKind.i64.wrap ((n:Int).tdiv 2))else [])=(if dS d then bW d else []):=by
  cases hd:dS d with
  | false=>rfl
  | true=>
    rw[if_pos rfl,if_pos rfl,JR d hd _ (fun z=>z / 2) (fun n hn=>by rw[Int.tdiv_eq_ediv_of_nonneg (by omega)];exact(IntWalk.i64_in _ (by omega)).trans (by omega))];unfold bW;apply List.map_congr_left;intro k _;exact(mF d k).symm
 rw[E]at C;obtain⟨R,hR⟩:=zg ((if dS d then bW d else []));obtain⟨er,he⟩:=zg (kS d);rw[hR,he]at C;rw[hR,he];clear hR he E;go_in;go_wp2_with fail;refine C.mono ?_;rintro e w1 ⟨u,rfl,h1,h2⟩;have H1:=zh h1;have H2:=zh h2;clear h1 h2 C;go_wp2_with fail;go_ret2;exact⟨u,rfl,H1.o,H2.o⟩
theorem Ji(d:Int)(w:World):Calls Tryz.prog 211 #[.int .i64 d] w fun e w'=>∃u,e=.returned (.tuple #[u,.int .i64 (kS d)])∧ax 3 1 bC w' w.heap.size u (if dS d then Jf d else [])∧Below w.heap.size w w':=by
 have C:=zh (yP 245 (fun n=>bits .xor .i64 (n:Int) 1) d w (enters_of Tryz.func245 (by kernel_rfl) rfl) (fun x W=>Ei x W))
 have E:(if dS d then(upN 11 (512+d).toNat).map (fun n:Nat=>bits .xor .i64 (n:Int) 1)else [])=(if dS d then Jf d else []):=by
  cases hd:dS d with
  | false=>rfl
  | true=>
    rw[if_pos rfl,if_pos rfl,JR d hd _ vZ (fun n hn=>by rw[xor1 n hn];unfold Oq vZ;split<;>split<;>omega)];rfl
 rw[E]at C;obtain⟨R,hR⟩:=zg ((if dS d then Jf d else []));obtain⟨er,he⟩:=zg (kS d);rw[hR,he]at C;rw[hR,he];clear hR he E;go_in;go_wp2_with fail;refine C.mono ?_;rintro e w1 ⟨u,rfl,h1,h2⟩;have H1:=zh h1;have H2:=zh h2;clear h1 h2 C;go_wp2_with fail;go_ret2;exact⟨u,rfl,H1.o,H2.o⟩
end Go.Proofs.YtfddbnmfllgifaaGreatDoor
