/- Part of TopMembers. -/
import Derived.Test.YtfddbnmfllgifaaGreatDoorRows
import Derived.WalkSpells
import Derived.WalkLawsBesides
import Derived.Deep.OwnRows
import Derived.Laws.CopyOwn
import Derived.Test.YtfddbnmfllgifaaGreatDoorA0
set_option linter.unusedVariables false
set_option linter.unusedSimpArgs false
set_option maxHeartbeats 64000000
namespace Go.Proofs.YtfddbnmfllgifaaGreatDoor
open Go.RowKit
def ah(n:Nat)(g:Nat→Value):Array Value:=((List.range n).map g).toArray
theorem bz(n:Nat)(g:Nat→Value):(ah n g).size=n:=by simp[ah]
theorem fO{n:Nat}{g:Nat→Value}{i:Nat}(h:i < n):(ah n g)[i]? =some (g i):=by simp[ah,h]
theorem Gv{n:Nat}{g g':Nat→Value}(h:∀i,i < n→g i=g' i):ah n g=ah n g':=by
 unfold ah;congr 1;exact List.map_congr_left fun i hi=>h i (List.mem_range.1 hi)
theorem QO(n:Nat)(g:Nat→Value)(k:Nat)(v:Value):(ah n g).setIfInBounds k v=ah n (fun i=>if i=k then v else g i):=by
 apply Array.ext_getElem?;intro i;rw[Array.getElem?_setIfInBounds,bz];by_cases hi:i < n
 · rw[fO hi,fO hi];by_cases hk:k=i
   · subst hk;simp[hi]
   · simp[hk,Ne.symm hk]
 · rw[Array.getElem?_eq_none (by rw[bz];omega),Array.getElem?_eq_none (by rw[bz];omega)];split<;>simp_all
def ag(W:World)(B:Nat)(T:TypeId)(n:Nat)(g:Nat→Value):Prop:=W.heap[B]? =some (.cells (ah n g) T (0,0))
section
variable {W W':World}{B n:Nat}{T:TypeId}{g g':Nat→Value}
theorem ag.lt(h:ag W B T n g):B < W.heap.size:=(Yi.1 h).1
theorem ag.cell(h:ag W B T n g){i:Nat}(hi:i < n):W.cell? ⟨B,i,none⟩=some (g i):=by
 simp[World.cell?,show W.heap[B]? =_ from h,fO hi]
theorem ag.frozen(h:ag W B T n g)(i:Nat):W.frozen? ⟨B,i,none⟩=false:=by
 simp[World.frozen?,show W.heap[B]? =_ from h]
theorem ag.of_block(h:ag W B T n g)(hb:W'.heap[B]? =W.heap[B]?):ag W' B T n g:=hb.trans h
theorem ag.below(h:ag W B T n g)(hb:Below W.heap.size W W'):ag W' B T n g:=(hb.block _ h.lt).trans h
theorem ag.uP{K:Nat}(h:ag W B T n g)(hk:B < K)(hb:Below K W W'):ag W' B T n g:=(hb.block _ hk).trans h
theorem ag.congr(h:ag W B T n g)(he:∀i,i < n→g i=g' i):ag W B T n g':=by
 unfold ag at *;rw[←Gv he];exact h
theorem ag.other(h:ag W B T n g){a:Addr}(ae:B≠a.block)(u:Value):ag (W.setCell a u) B T n g:=(Below.heap_setCell _ _ _ _ ae).trans h
theorem ag.set(h:ag W B T n g)(k:Nat)(v:Value):ag (W.setCell ⟨B,k,none⟩ v) B T n (fun i=>if i=k then v else g i):=by
 obtain⟨ae,hk⟩:=Yi.1 h;show(W.heap.modify B _)[B]? =_;rw[Array.getElem?_eq_getElem (by rw[Array.size_modify];exact ae),Array.getElem_modify_self,hk];simp only[Option.isSome_none,Bool.false_eq_true,if_false,QO]
theorem ag.put(h:ag W B T n g){k:Nat}{v:Value}(he:∀i,i < n→(if i=k then v else g i)=g' i):ag (W.setCell ⟨B,k,none⟩ v) B T n g':=(h.set k v).congr he
theorem ag.drew(h:ag W B T n g):ag W.drew B T n g:=h
theorem ag.new(W:World)(T:TypeId)(n:Nat)(g:Nat→Value):ag (W.alloc (.cells (ah n g) T)) W.heap.size T n g:=by
 show(W.heap.push _)[_]? =_;simp
theorem ag.alloc(h:ag W B T n g)(o:Obj):ag (W.alloc o) B T n g:=h.below (Below.alloc (Yb _ _) (Ya _) o)
end
structure aG(B:Nat)(w w':World):Prop where
 os:w'.os=w.os
 tape:w'.tape=w.tape
 output:w'.output=w.output
 size:w.heap.size≤w'.heap.size
 block:∀k,k < w.heap.size→k≠B→w'.heap[k]? =w.heap[k]?
section
variable {B:Nat}{a b c w w':World}
theorem aG.refl(B:Nat)(w:World):aG B w w:=⟨rfl,rfl,rfl,Ya _,fun _ _ _=>rfl⟩
theorem aG.trans(h:aG B a b)(k:aG B b c):aG B a c:=
 ⟨k.os.trans h.os,k.tape.trans h.tape,k.output.trans h.output,Yc h.size k.size,fun i hi hn=>(k.block i (Yg hi h.size) hn).trans (h.block i hi hn)⟩
theorem aG.of_below(h:Below w.heap.size w w'):aG B w w':=⟨h.os,h.tape,h.output,h.size,fun k hk _=>h.block k hk⟩
theorem aG.drew(h:aG B a w):aG B a w.drew:=⟨h.os,h.tape,h.output,h.size,h.block⟩
theorem aG.alloc(h:aG B a w)(o:Obj):aG B a (w.alloc o):=h.trans (.of_below (Below.alloc (Yb _ _) (Ya _) o))
theorem aG.setCell(h:aG B a w){p:Addr}(hp:p.block=B∨a.heap.size≤p.block)(u:Value):aG B a (w.setCell p u):=by
 refine⟨h.os,h.tape,h.output,by simpa[World.setCell]using h.size,fun k hk hn=>?_⟩;rw[Below.heap_setCell _ _ _ _ (by rcases hp with hp | hp<;>omega)];exact h.block k hk hn
theorem aG.below{K:Nat}(h:aG B w w')(hB:K≤B)(hK:K≤w.heap.size):Below K w w':=⟨h.os,h.tape,h.output,h.size,fun k hk=>h.block k (by omega) (by omega)⟩
theorem aG.row{C n:Nat}{T:TypeId}{g:Nat→Value}(h:aG B w w')(ae:C≠B)(r:ag w C T n g):ag w' C T n g:=(h.block C r.lt ae).trans r
theorem aG.cell(h:aG B w w'){p:Addr}(hp:p.block < w.heap.size)(ae:p.block≠B):w'.cell? p=w.cell? p:=World.cell?_of_block (w:=w) (h.block p.block hp ae)
end
theorem sH{W:World}{B n n':Nat}{T:TypeId}{g:Nat→Value}(h:ag W B T n g)(g':Nat→Value):ag (W.setRow B (ah n' g')) B T n' g':=setRow_heap W B _ _ T _ h
theorem rP(W:World)(B:Nat)(cs:Array Value):aG B W (W.setRow B cs):=
 ⟨rfl,rfl,rfl,by simp[World.setRow],fun k _ hn=>setRow_other W B k cs hn⟩
theorem xW{P:Program}(w:World)(dT sT ty elem:TypeId)(g o dLen dCap:Nat)(a:Addr)(sLen sCap N n:Nat)(T:TypeId)(f src:Nat→Value)
 (hu:P.underlying dT=some (.slice elem)) (hs:(P.info? elem).map (·.size)=some 1) (ae:ag w g T N f) (hn:n=Nat.min sLen dLen)
 (af:∀j,j < n→w.cell? (a.add j)=some (src j)) (ai:o+n≤N) (h1:∀j,j < n→(src j).oneCell'=true):
 (Builtin.copy_ #[dT,sT] ty #[.slice (some ⟨g,o,none⟩) dLen dCap,.slice (some a) sLen sCap]).run P w=
   .ok (goInt n) (w.setRow g (ah N fun j=>if o≤j∧j < o+n then src (j - o)else f j)):=by
 have h:=run_copy_row (P:=P) w dT sT ty elem g o dLen dCap a sLen sCap (ah N f) T ((List.range n).map src) hu hs ae (by simpa using hn)
  (fun j v hj=>by
    rw[Xg]at hj;obtain⟨k,hk,rfl⟩:=Option.map_eq_some_iff.1 hj;obtain⟨aj,ak⟩:=Ys.1 hk;rw[List.length_range]at aj;rw[List.getElem_range]at ak;subst ak
    exact af j aj)
  (by rw[bz,Yk,List.length_range];exact ai)
  (fun v hv=>by obtain⟨j,hj,rfl⟩:=Yo.1 hv;exact h1 j (List.mem_range.1 hj))
 rw[h];congr 1
 · simp
 · congr 1;apply Array.ext_getElem?;intro i;simp only[List.getElem?_toArray,Yk,List.length_range];by_cases hi:i < N
   · rw[fO hi];by_cases h2:i < o
     · rw[if_neg (by omega),Xa,Xd (by simp[bz];omega),Yy h2];simpa using fO hi
     · by_cases h3:i < o+n
       · rw[if_pos ⟨by omega,h3⟩,Xa,Xb (by simp[bz];omega),Xd (by simp[bz];omega)];simp only[Yu,Array.length_toList,bz,Nat.min_eq_left (show o≤N by omega),Xg,Xh (show i - o < n by omega),Option.map_some]
       · rw[if_neg (by omega),Xb (by simp[bz];omega),List.getElem?_drop];simp only[Yf,Yu,Array.length_toList,bz,Nat.min_eq_left (show o≤N by omega),Yk,List.length_range];rw[show o+n+(i - (o+n))=i by omega];simpa using fO hi
   · rw[Array.getElem?_eq_none (by rw[bz];omega),List.getElem?_eq_none (by simp[bz];omega)]
theorem kZ{P:Program}{w:World}{ops:Array Oper}{rest:List Oper}{o:Oper}{a:Act}{Q:Exit→Act→World→Prop}(aj:o.guard=none)(d s:Operand)(dT sT:TypeId)
 (ho:o.op=.call {callee:=.builtin .copy,args:= #[d,s],argTypes:= #[dT,sT]}) (elem:TypeId) (hu:P.underlying dT=some (.slice elem)) (ak:(P.info? elem).map (·.size)=some 1)
 (g off dLen dCap:Nat) (ad:Addr) (sLen sCap:Nat) (hd:a.eval d=.slice (some ⟨g,off,none⟩) dLen dCap) (hs:a.eval s=.slice (some ad) sLen sCap)
 (N n:Nat) (T:TypeId) (f src:Nat→Value) (ae:ag w g T N f) (hn:n=Nat.min sLen dLen)
 (af:∀j,j < n→w.cell? (ad.add j)=some (src j)) (ah:off+n≤N) (h1:∀j,j < n→(src j).oneCell'=true)
 (h:∀w',Hid (ag w' g T N fun j=>if off≤j∧j < off+n then src (j - off)else f j)→Hid (aG g w w')→wpList P ops Q rest (a.put o.dst (goInt n)) w'):
 wpList P ops Q (o::rest) a w:=by
 refine wpList_plain aj fun K hK=>?_;have ai:=xW (P:=P) w dT sT o.type elem g off dLen dCap ad sLen sCap N n T f src hu ak ae hn af ah h1;unfold Oper.wp;simp[execOp,ho,resolve,invoke,builtin,hd,hs,ai,Result.andThen];exact hK _ _ (h _ (sH ae _) (rP _ _ _))
abbrev vB(x:UInt8):Value:=.int .u8 (x.toNat:Int)
def BytesAt(w:World)(v:Value)(l:List UInt8):Prop:=
 ((∃(a:Option Addr) (c:Nat),v=.slice a 0 c∧(a=none→c=0))∧l=[])∨
 ∃b off cap:Nat,v=.slice (some ⟨b,off,none⟩) l.length cap∧l.length≤cap∧0 < l.length∧((l.length:Int)≤140737488351232∧(cap:Int)≤9223372036854775807)∧b < w.heap.size∧∀j,j < l.length→w.cell? ⟨b,off+j,none⟩=some (vB (l.getD j 0))
theorem BytesAt.below{w w':World}{v:Value}{l:List UInt8}(h:BytesAt w v l)(hb:Below w.heap.size w w'):BytesAt w' v l:=by
 rcases h with h | ⟨b,off,cap,h1,h2,h3,h4,h5,h6⟩
 · exact .inl h
 · exact .inr ⟨b,off,cap,h1,h2,h3,h4,Yg h5 hb.size,fun j hj=>(hb.cell (p:=⟨b,off+j,none⟩) h5).trans (h6 j hj)⟩
theorem BytesAt.lQ{w:World}{v:Value}{l:List UInt8}(h:BytesAt w v l):(l.length:Int)≤140737488351232:=by
 rcases h with⟨_,rfl⟩ | ⟨_,_,_,_,_,_,h4,_⟩
 · decide
 · exact h4.1
theorem BytesAt.slice{w:World}{v:Value}{l:List UInt8}(h:BytesAt w v l):∃(a:Option Addr) (c:Nat),v=.slice a l.length c:=by
 rcases h with⟨⟨a,c,rfl,_⟩,rfl⟩ | ⟨b,off,cap,rfl,_⟩
 · exact⟨a,c,rfl⟩
 · exact⟨_,_,rfl⟩
theorem zQ(w:World)(o:Obj)(T:TypeId)(n:Nat)(g:Nat→Value)(h:o=.cells (ah n g) T):∃w',w.alloc o=w'∧Below w.heap.size w w'∧w.heap.size+1=w'.heap.size∧Hid (ag w' w.heap.size T n g):=⟨_,rfl,(Below.refl _ _).alloc (Nat.le_refl _) _,(Array.size_push _).symm,by subst h;exact ag.new w T n g⟩
theorem zW(w:World)(T:TypeId)(n:Nat)(g:Nat→Value):∃w',w.alloc (.cells (ah n g) T)=w'∧Below w.heap.size w w'∧w.heap.size+1=w'.heap.size∧Hid (ag w' w.heap.size T n g):=zQ w _ T n g rfl
theorem zA(w:World)(o:Obj):∃w',w.alloc o=w'∧Below w.heap.size w w'∧w.heap.size+1=w'.heap.size:=⟨_,rfl,(Below.refl _ _).alloc (Nat.le_refl _) _,(Array.size_push _).symm⟩
theorem zO{w w':World}{o:Obj}(h:Hid (aG w.heap.size (w.alloc o) w')):Below w.heap.size w w':=((Below.refl _ _).alloc (Nat.le_refl _) _).trans (aG.below h (Nat.le_refl _) (by rw[World.size_alloc];omega))
def zR(P:Program)(ty:TypeId)(N:Nat):Prop:=∃d,P.underlying ty=some d∧(match d with | .struct _ | .array _ _=>true | _=>false)=true∧(P.info? ty).map (·.size)=some N
def zK(P:Program)(ty:TypeId):Prop:=∃d,P.underlying ty=some d∧(match d with | .struct _ | .array _ _=>true | _=>false)=false
theorem YV:zR Tryz.prog 75 5:=⟨_,Tryz.underlying75,rfl,by kernel_rfl⟩
theorem YZ:zR Tryz.prog 53 3:=⟨_,Tryz.underlying53,rfl,by kernel_rfl⟩
theorem YT:zR Tryz.prog 37 35:=⟨_,Tryz.underlying37,rfl,by kernel_rfl⟩
theorem YR:zR Tryz.prog 86 143:=⟨_,Tryz.underlying86,rfl,by kernel_rfl⟩
theorem YO:zR Tryz.prog 51 36:=⟨_,Tryz.underlying51,rfl,by kernel_rfl⟩
theorem Zj:zR Tryz.prog 96 36:=⟨_,Tryz.underlying96,rfl,by kernel_rfl⟩
theorem Zf:zR Tryz.prog 31 8:=⟨_,Tryz.underlying31,rfl,by kernel_rfl⟩
theorem Zk:zR Tryz.prog 122 111:=⟨_,Tryz.underlying122,rfl,by kernel_rfl⟩
theorem Zd:zR Tryz.prog 82 3:=⟨_,Tryz.underlying82,rfl,by kernel_rfl⟩
theorem Zl:zR Tryz.prog 45 33:=⟨_,Tryz.underlying45,rfl,by kernel_rfl⟩
theorem YU:zR Tryz.prog 71 73:=⟨_,Tryz.underlying71,rfl,by kernel_rfl⟩
theorem YQ:zR Tryz.prog 35 32:=⟨_,Tryz.underlying35,rfl,by kernel_rfl⟩
theorem YX:zR Tryz.prog 153 4:=⟨_,Tryz.underlying153,rfl,by kernel_rfl⟩
theorem Zm:zR Tryz.prog 142 2:=⟨_,Tryz.underlying142,rfl,by kernel_rfl⟩
theorem YY:zR Tryz.prog 155 3:=⟨_,Tryz.underlying155,rfl,by kernel_rfl⟩
theorem YS:zR Tryz.prog 107 4:=⟨_,Tryz.underlying107,rfl,by kernel_rfl⟩
theorem YP:zR Tryz.prog 49 1:=⟨_,Tryz.underlying49,rfl,by kernel_rfl⟩
theorem zU77:zR Tryz.prog 77 2:=⟨_,Tryz.underlying77,rfl,by kernel_rfl⟩
theorem Zh:zR Tryz.prog 302 2:=⟨_,Tryz.underlying302,rfl,by kernel_rfl⟩
theorem zU59:zR Tryz.prog 59 2:=⟨_,Tryz.underlying59,rfl,by kernel_rfl⟩
theorem zU64:zR Tryz.prog 64 2:=⟨_,Tryz.underlying64,rfl,by kernel_rfl⟩
theorem Zg:zR Tryz.prog 262 3:=⟨_,Tryz.underlying262,rfl,by kernel_rfl⟩
theorem zC3:zK Tryz.prog 3:=⟨_,Tryz.underlying3,rfl⟩
theorem Zo:zK Tryz.prog 24:=⟨_,Tryz.underlying24,rfl⟩
theorem Zi:zK Tryz.prog 67:=⟨_,Tryz.underlying67,rfl⟩
theorem zC80:zK Tryz.prog 80:=⟨_,Tryz.underlying80,rfl⟩
theorem Za:zK Tryz.prog 40:=⟨_,Tryz.underlying40,rfl⟩
theorem zC41:zK Tryz.prog 41:=⟨_,Tryz.underlying41,rfl⟩
theorem zC9:zK Tryz.prog 9:=⟨_,Tryz.underlying9,rfl⟩
theorem Ze:zK Tryz.prog 105:=⟨_,Tryz.underlying105,rfl⟩
theorem zC214:zK Tryz.prog 214:=⟨_,Tryz.underlying214,rfl⟩
theorem Zp:zK Tryz.prog 211:=⟨_,Tryz.underlying211,rfl⟩
theorem Zn:zK Tryz.prog 130:=⟨_,Tryz.underlying130,rfl⟩
theorem zC68:zK Tryz.prog 68:=⟨_,Tryz.underlying68,rfl⟩
theorem zC69:zK Tryz.prog 69:=⟨_,Tryz.underlying69,rfl⟩
theorem zC360:zK Tryz.prog 360:=⟨_,Tryz.underlying360,rfl⟩
theorem zC22:zK Tryz.prog 22:=⟨_,Tryz.underlying22,rfl⟩
theorem zC46:zK Tryz.prog 46:=⟨_,Tryz.underlying46,rfl⟩
section
variable {P:Program}{w:World}{ops:Array Oper}{rest:List Oper}{o:Oper}{a:Act}{Q:Exit→Act→World→Prop}
theorem NG(af:o.guard=none)(ty:TypeId)(x:Operand)(ho:o.op=.load ty x)(g:Nat)(hx:a.eval x=.pointer (some ⟨g,0,none⟩))(N:Nat)(T:TypeId)(f:Nat→Value)(ae:ag w g T N f)
 (d:TypeDesc) (hu:P.underlying ty=some d) (hd:(match d with | .struct _ | .array _ _=>true | _=>false)=true) (hi:(P.info? ty).map (·.size)=some N)
 (h:wpList P ops Q rest (a.put o.dst (.agg (ah N f))) w):wpList P ops Q (o::rest) a w:=
 wpList_load_row af ty x ho g hx T (ah N f) (0,0) d ae hu hd (by rw[bz];exact hi) h
theorem qN(w:World)(g:Nat)(ty:TypeId)(N:Nat)(T:TypeId)(f f':Nat→Value)(ae:ag w g T N f)(hi:(P.info? ty).map (·.size)=some N)(h1:∀j,j < N→(f' j).oneCell'=true):
 (storeVar ty ⟨g,0,none⟩ (.agg (ah N f'))).run P w=.ok () (w.setRow g (ah N f')):=by
 have :=run_storeCells_at P g 0 T ((List.range N).map f') 0 (ah N f) w ae (by simp[bz]) (fun v hv=>by
  obtain⟨j,hj,rfl⟩:=Yo.1 hv;exact h1 j (List.mem_range.1 hj))
 have e:((ah N f).toList.take (0+0)++(List.range N).map f'++(ah N f).toList.drop (0+0+((List.range N).map f').length)).toArray=ah N f':=by
  rw[List.take_zero,List.nil_append,List.drop_eq_nil_of_le (by simp[bz]),List.append_nil];rfl
 rw[e]at this
 cases hq:P.info? ty with
 | none=>simp[hq]at hi
 | some i=>
   have hs:i.size=N:=(by simpa[hq]using hi);simp[storeVar,sizeOf,typeInfo,hq,Value.cells,bz,hs,show(ah N f').toList=(List.range N).map f' from rfl,this]
theorem qH(ai:o.guard=none)(ty:TypeId)(x y:Operand)(ho:o.op=.store ty x y)(g:Nat)(hx:a.eval x=.pointer (some ⟨g,0,none⟩))(N:Nat)(T:TypeId)(f f':Nat→Value)(hy:a.eval y=.agg (ah N f'))
 (ae:ag w g T N f) (hi:(P.info? ty).map (·.size)=some N) (h1:∀j,j < N→(f' j).oneCell'=true)
 (h:∀w',Hid (ag w' g T N f')→Hid (aG g w w')→wpList P ops Q rest (a.put o.dst undef) w'):wpList P ops Q (o::rest) a w:=by
 refine wpList_plain ai fun K hK=>?_;have af:=qN (P:=P) w g ty N T f f' ae hi h1;unfold Oper.wp execOp;simp only[ho,hx,hy,Instr.storeAt,Instr.sureAddr,Sem.run_bind,Sem.run_pure,Result.andThen_ok,af];exact hK _ _ (h _ (sH ae _) (rP _ _ _))
end
section
variable {P:Program}{w:World}{ops:Array Oper}{rest:List Oper}{o:Oper}{a:Act}{Q:Exit→Act→World→Prop}
theorem uf(ai:o.guard=none)(d s:Operand)(dT sT:TypeId)
 (ho:o.op=.call {callee:=.builtin .copy,args:= #[d,s],argTypes:= #[dT,sT]}) (elem:TypeId) (hu:P.underlying dT=some (.slice elem)) (aj:(P.info? elem).map (·.size)=some 1)
 (g off dLen dCap:Nat) (sp:Option Addr) (sLen sCap:Nat) (hd:a.eval d=.slice (some ⟨g,off,none⟩) dLen dCap) (hs:a.eval s=.slice sp sLen sCap)
 (N n:Nat) (T:TypeId) (f src:Nat→Value) (ae:ag w g T N f) (hn:n=Nat.min sLen dLen)
 (af:0 < n→∃ad,sp=some ad∧∀j,j < n→w.cell? (ad.add j)=some (src j)) (ah:off+n≤N) (h1:∀j,j < n→(src j).oneCell'=true)
 (h:∀w',Hid (ag w' g T N fun j=>if off≤j∧j < off+n then src (j - off)else f j)→Hid (aG g w w')→wpList P ops Q rest (a.put o.dst (goInt n)) w'):
 wpList P ops Q (o::rest) a w:=by
 by_cases h0:n=0
 · subst h0;refine wpList_copy_nothing ai d s dT sT ho elem hu aj (some ⟨g,off,none⟩) sp dLen dCap sLen sCap hd hs hn.symm ?_;exact h w (ae.congr fun j _=>by rw[if_neg (by omega)]) (aG.refl _ _)
 · obtain⟨ad,rfl,hc⟩:=af (by omega);exact kZ ai d s dT sT ho elem hu aj g off dLen dCap ad sLen sCap hd hs N n T f src ae hn hc ah h1 h
end
theorem XN{P:Program}{fn:Func}{p:Tmp}{ty:TypeId}(h:fn.results= #[.cell p ty])(tmps:Array Value)(w:World)(g N:Nat)(T:TypeId)(f:Nat→Value)(d:TypeDesc)
 (hp:tmps.getD p undef=.pointer (some ⟨g,0,none⟩)) (ae:ag w g T N f)
 (hu:P.underlying ty=some d) (hd:(match d with | .struct _ | .array _ _=>true | _=>false)=true) (hi:(P.info? ty).map (·.size)=some N):
 (results fn tmps).run P w=.ok (.agg (ah N f)) w:=
 results_cell_row h tmps w g T (ah N f) (0,0) d hp ae hu hd (by rw[bz];exact hi)
theorem rJ(l:List UInt8)(k j:Nat):(l.drop k).getD j 0=l.getD (k+j) 0:=by
 simp[Yd,List.getElem?_drop]
theorem BytesAt.NJ{w:World}{b o cap k:Nat}{l:List UInt8}(hc:cap=k)(hl:l.length≤k):BytesAt w (.slice (some ⟨b,o,none⟩) (l.length - k) (cap - k)) (l.drop k):=
 .inl ⟨⟨_,cap - k,by rw[Nat.sub_eq_zero_of_le hl],fun h=>by cases h⟩,List.drop_eq_nil_of_le hl⟩
theorem BytesAt.drop_at{w:World}{b o cap k:Nat}{l:List UInt8}(hlen:l.length≤cap)(ae:(l.length:Int)≤140737488351232∧(cap:Int)≤9223372036854775807)(hb:b < w.heap.size)(hcell:∀j,j < l.length→w.cell? ⟨b,o+j,none⟩=some (vB (l.getD j 0)))(hk:k≤l.length):
 BytesAt w (.slice (some ⟨b,o+k,none⟩) (l.length - k) (cap - k)) (l.drop k):=by
 by_cases h0:l.length - k=0
 · exact .inl ⟨⟨_,cap - k,by rw[h0],fun h=>by cases h⟩,List.drop_eq_nil_of_le (by omega)⟩
 · refine .inr ⟨b,o+k,cap - k,by rw[List.length_drop],by rw[List.length_drop];omega,by rw[List.length_drop];omega,⟨by rw[List.length_drop];omega,by omega⟩,hb,fun j hj=>?_⟩;rw[List.length_drop]at hj;rw[rJ,Nat.add_assoc,hcell _ (by omega)]
theorem zL{P:Program}{w:World}{ops:Array Oper}{rest:List Oper}{a:Act}{Q:Exit→Act→World→Prop}{dst:Option Tmp}{ty t:TypeId}{x:Operand}{p:String}{af:Array Edge}{g N:Nat}{T:TypeId}{f:Nat→Value}(hr:Hid (ag w g T N f))(hx:a.eval x=.pointer (some ⟨g,0,none⟩))(U:zR P ty N)(h:wpList P ops Q rest (a.put dst (.agg (ah N f))) w):wpList P ops Q (Oper.mk dst (.load ty x) t p af none::rest) a w:=by
 obtain⟨d,hu,hd,hi⟩:=U
 exact NG rfl ty x rfl g hx N T f hr d hu (by cases d<;>exact hd) hi h
theorem zV{P:Program}{w:World}{ops:Array Oper}{rest:List Oper}{a:Act}{Q:Exit→Act→World→Prop}{dst:Option Tmp}{ty t:TypeId}{x:Operand}{p:String}{af:Array Edge}{y:Operand}{g N:Nat}{T:TypeId}{f:Nat→Value}(hr:Hid (ag w g T N f))(hx:a.eval x=.pointer (some ⟨g,0,none⟩))(f':Nat→Value)(hy:a.eval y=.agg (ah N f'))(U:zR P ty N)(h1:∀j,j < N→(f' j).oneCell'=true)(h:∀w',Hid (ag w' g T N f')→Hid (aG g w w')→wpList P ops Q rest (a.put dst undef) w'):wpList P ops Q (Oper.mk dst (.store ty x y) t p af none::rest) a w:=by
 obtain⟨d,_,_,hi⟩:=U
 exact qH rfl ty x y rfl g hx N T f f' hy hr hi h1 h
theorem zB{P:Program}{fn:Func}{p:Tmp}{ty:TypeId}{tmps:Array Value}{w:World}{g N:Nat}{T:TypeId}{f:Nat→Value}(hr:Hid (ag w g T N f))(h:fn.results= #[.cell p ty])(hp:tmps.getD p undef=.pointer (some ⟨g,0,none⟩))(U:zR P ty N):(results fn tmps).run P w=.ok (.agg (ah N f)) w:=by
 obtain⟨d,hu,hd,hi⟩:=U
 exact XN h tmps w g N T f d hp hr hu (by cases d<;>exact hd) hi
end Go.Proofs.YtfddbnmfllgifaaGreatDoor
