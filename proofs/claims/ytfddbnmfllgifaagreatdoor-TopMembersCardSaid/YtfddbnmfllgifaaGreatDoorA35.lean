/- Part of TopMembers. -/
import Derived.Test.YtfddbnmfllgifaaGreatDoorA9
import Derived.Test.YtfddbnmfllgifaaGreatDoorA5
import Derived.Test.YtfddbnmfllgifaaGreatDoorA34
import Derived.Test.YtfddbnmfllgifaaGreatDoorA45
set_option linter.unusedVariables false
set_option linter.unusedSimpArgs false
set_option maxHeartbeats 64000000
set_option maxRecDepth 100000
namespace Go.Proofs.YtfddbnmfllgifaaGreatDoor
open Go.RowKit Cod
def aN(s:Nat)(w:World)(v:Value)(n:Nat)(c:Nat→Nat→Value):Prop:=
 ((∃(a:Option Addr) (k:Nat),v=.slice a 0 k∧(a=none→k=0))∧n=0)∨
 ∃b off cap:Nat,v=.slice (some ⟨b,off,none⟩) n cap∧n≤cap∧0 < n∧((n:Int)≤140737488351232∧(cap:Int)≤9223372036854775807)∧b < w.heap.size∧∀i,i < n→∀j,j < s→w.cell? ⟨b,off+s*i+j,none⟩=some (c i j)
section
variable {s:Nat}{w w':World}{v:Value}{n:Nat}{c c':Nat→Nat→Value}
theorem aN.below(h:aN s w v n c)(hb:Below w.heap.size w w'):aN s w' v n c:=by
 rcases h with h | ⟨b,off,cap,h1,h2,h3,h4,h5,h6⟩
 · exact .inl h
 · exact .inr ⟨b,off,cap,h1,h2,h3,h4,Yg h5 hb.size,fun i hi j hj=>(hb.cell (p:=⟨b,off+s*i+j,none⟩) h5).trans (h6 i hi j hj)⟩
theorem aN.slice(h:aN s w v n c):∃(a:Option Addr) (k:Nat),v=.slice a n k:=by
 rcases h with⟨⟨a,k,rfl,_⟩,rfl⟩ | ⟨b,off,cap,rfl,_⟩
 · exact⟨a,k,rfl⟩
 · exact⟨_,_,rfl⟩
theorem aN.lQ(h:aN s w v n c):(n:Int)≤140737488351232:=by
 rcases h with⟨_,rfl⟩ | ⟨_,_,_,_,_,_,h4,_⟩
 · decide
 · exact h4.1
theorem aN.congr(h:aN s w v n c)(he:∀i,i < n→∀j,j < s→c i j=c' i j):aN s w v n c':=by
 rcases h with h | ⟨b,off,cap,h1,h2,h3,h4,h5,h6⟩
 · exact .inl h
 · exact .inr ⟨b,off,cap,h1,h2,h3,h4,h5,fun i hi j hj=>by rw[h6 i hi j hj,he i hi j hj]⟩
theorem aN.aI{a:Option Addr}{k:Nat}(h:aN s w (.slice a n k) n c){i:Nat}(hi:i < n):∃b off,a=some ⟨b,off,none⟩∧n≤k∧b < w.heap.size∧∀i,i < n→∀j,j < s→w.cell? ⟨b,off+s*i+j,none⟩=some (c i j):=by
 rcases h with⟨_,rfl⟩ | ⟨b,off,cap,h1,h2,h3,h4,h5,h6⟩
 · exact absurd hi (by omega)
 · cases h1;exact⟨b,off,rfl,h2,h5,h6⟩
end
theorem OO{P:Program}{w:World}{ops:Array Oper}{rest:List Oper}{o:Oper}{a:Act}{Q:Exit→Act→World→Prop}(af:o.guard=none)(ty:TypeId)(x:Operand)(ho:o.op=.load ty x)
 (g off:Nat) (hx:a.eval x=.pointer (some ⟨g,off,none⟩)) (N base i:Nat) (ae:off=base+N*i) (f:Nat→Value) (hc:∀j,j < N→w.cell? ⟨g,base+N*i+j,none⟩=some (f j))
 (d:TypeDesc) (hu:P.underlying ty=some d) (hd:d.isRow=true) (hi:(P.info? ty).map (·.size)=some N)
 (h:wpList P ops Q rest (a.put o.dst (.agg (ah N f))) w):wpList P ops Q (o::rest) a w:=by
 refine wpList_load_mid af ty x ho g off hx ((List.range N).map f) d (fun j v hv=>?_) hu hd (by simpa using hi) h;have hj:j < N:=(by have :=(Ys.1 hv).1;simpa using this);have hv':v=f j:=(by simpa[hj]using hv.symm);rw[ae,hc j hj,hv']
def bu(k n:Int)(s:ByteArray)(sl:Value):Nat→Value
 | 0=>.int .i64 k
 | 1=>.int .i64 n
 | 2=>.string s
 | _=>sl
def bQ(z:Int):Prop:= -9223372036854775808≤z∧z < 9223372036854775808
inductive dF(w:World):Value→Tv→Prop
 | mk (k n:Int) (s:ByteArray) (sl:Value) (l:List Tv) (c:Nat→Nat→Value) (hk:bQ k) (hn:bQ n) (hs:(s.size:Int)≤140737488351232) (hl:aN 4 w sl l.length c)
    (h:∀i,i < l.length→dF w (.agg (ah 4 (c i))) (l.getD i tv0)):dF w (.agg #[.int .i64 k,.int .i64 n,.string s,sl]) (.mk k n s l)
theorem dF.later{w w':World}{v:Value}{t:Tv}(h:dF w v t)(hb:Below w.heap.size w w'):dF w' v t:=by
 induction h with
 | mk k n s sl l c hk hn hs hl _ ih=>exact .mk k n s sl l c hk hn hs (hl.below hb) ih
theorem dF.open{w:World}{v:Value}{k n:Int}{s:ByteArray}{l:List Tv}(h:dF w v (.mk k n s l)):
 ∃(a:Option Addr) (cap:Nat) (c:Nat→Nat→Value),v=.agg #[.int .i64 k,.int .i64 n,.string s,.slice a l.length cap]∧bQ k∧bQ n∧(s.size:Int)≤140737488351232∧aN 4 w (.slice a l.length cap) l.length c∧
  ∀i,i < l.length→dF w (.agg (ah 4 (c i))) (l.getD i tv0):=by
 cases h with
 | mk _ _ _ sl _ c hk hn hs hl hi=>
   obtain⟨a,cap,rfl⟩:=hl.slice;exact⟨a,cap,c,rfl,hk,hn,hs,hl,hi⟩
theorem dF.cells{w:World}{f:Nat→Value}{t:Tv}(h:dF w (.agg (ah 4 f)) t):∀j,j < 4→(f j).oneCell'=true:=by
 obtain⟨k,n,s,l⟩:=t;obtain⟨a,cap,c,e,_⟩:=h.open;have e1:=Value.agg.inj e;have e2:∀j:Nat,(ah 4 f)[j]? =(#[.int .i64 k,.int .i64 n,.string s,.slice a l.length cap]:Array Value)[j]? :=fun j=>(by rw[e1]);intro j hj;have h2:=e2 j;rw[fO hj]at h2
 match j,hj,h2 with
 | 0,_,h2=>rw[Yx h2];rfl
 | 1,_,h2=>rw[Yx h2];rfl
 | 2,_,h2=>rw[Yx h2];rfl
 | 3,_,h2=>rw[Yx h2];rfl
def eF:Nat→Value:=bu 0 0 ByteArray.empty (.slice none 0 0)
theorem aH{α:Type}(d:α)(l:List α){k:Nat}(h:k < l.length):l.take (k+1)=l.take k++[l.getD k d]:=by
 rw[List.take_succ_eq_append_getElem h,Yd,Yh h];rfl
theorem sJ(l:List Tv){k:Nat}(h:k < l.length):dC (l.take (k+1))=max (dC (l.take k)) (cO (l.getD k tv0)):=by
 rw[aH tv0 l h,jo,GZ]
theorem wY(l:List Tv){k:Nat}(h:k < l.length):fJ (l.take (k+1))=(fJ (l.take k)&&cu (l.getD k tv0)):=by
 rw[aH tv0 l h,lI,Nz]
theorem yF(l:List Tv){k:Nat}(h:k < l.length):fQ (l.take (k+1))=fQ (l.take k)++dW (l.getD k tv0):=by
 rw[aH tv0 l h,kF,Fa]
theorem FY{l:List Tv}{k:Nat}(h:k < l.length)(hf:cu (l.getD k tv0)=false):fJ l=false:=by
 have h1:l=l.take (k+1)++l.drop (k+1):=(List.take_append_drop _ _).symm;rw[h1,lI,wY l h,hf,Bool.and_false,Bool.false_and]
theorem zE{P:Program}{w:World}{ops:Array Oper}{rest:List Oper}{a:Act}{Q:Exit→Act→World→Prop}{dst:Option Tmp}{ty t:TypeId}{x:Operand}{p:String}{af:Array Edge}(g off:Nat)(hx:a.eval x=.pointer (some ⟨g,off,none⟩)){N:Nat}(U:zR P ty N)(base i:Nat)(hoff:off=base+N*i)(f:Nat→Value)(hc:∀j,j < N→w.cell? ⟨g,base+N*i+j,none⟩=some (f j))(h:wpList P ops Q rest (a.put dst (.agg (ah N f))) w):wpList P ops Q (Oper.mk dst (.load ty x) t p af none::rest) a w:=by
 obtain⟨d,hu,hd,hi⟩:=U
 exact OO rfl ty x rfl g off hx N base i hoff f hc d hu (by cases d<;>exact hd) hi h
end Go.Proofs.YtfddbnmfllgifaaGreatDoor
namespace Go.Proofs.YtfddbnmfllgifaaGreatDoor
open Go.RowKit
attribute [local go_sem] Oper.semAt_some
section
variable {F:Fence}{n:Nat}{P:Program}{w w':World}{ops:Array Oper}{rest:List Oper}{o:Oper}{a:Act}{Q:Exit→Act→World→Prop}
theorem kQ(hw:Region.wanted o (yielded ops a.tmps)=true)(h:wpListIn F n P ops Q ({o with guard:=none}::rest) a w):wpListIn F n P ops Q (o::rest) a w:=by
 unfold wpListIn at h ⊢;rw[if_pos hw];rw[if_pos (show Region.wanted {o with guard:=none} (yielded ops a.tmps)=true from rfl)]at h;exact h
end
end Go.Proofs.YtfddbnmfllgifaaGreatDoor
namespace Go.Proofs.YtfddbnmfllgifaaGreatDoor
open Go.RowKit
attribute [local go_sem] Oper.semAt_some
theorem qh{W:World}{base base':Nat}{e:TypeId}{size:Nat}{v:Value}{k:Nat}{xs:List Value}(h:W.ownsRow base e size v k xs)(hb:base'≤base):W.ownsRow base' e size v k xs:=
 ⟨h.1,by
   rcases h.2 with h2 | ⟨g,cap,cur,h1,h2,h3⟩
   · exact .inl h2
   · exact .inr ⟨g,cap,cur,h1,Yc hb h2,h3⟩⟩
end Go.Proofs.YtfddbnmfllgifaaGreatDoor
namespace Go.Proofs.YtfddbnmfllgifaaGreatDoor
open Go.RowKit Top
def KpB(B:Nat)(W W':World):Prop:=W'.heap[B]? =W.heap[B]?
def upN:Nat→Nat→List Nat
 | 0,_=>[]
 | f+1,n=>if 1 < n then n::upN f (n / 2)else []
abbrev encU(x:Nat):Array Value:= #[.int .i64 (x:Int)]
theorem Ws(n B m:Nat)(w:World)(hm:m < 2048)(hB:ag w B 362 1 (fun _=>.int .i64 (m:Int))):
 KG Fence.wide n Tryz.prog 283 #[.pointer (some ⟨B,0,none⟩)] encU (KpB B) B (fun xs=>xs=upN 11 m) (upN 11 m).length w:=by
 intro l J W hW hJ hD hY h0;refine callsIn_wide.2 ?_;show Calls _ _ #[.func (.yield l) #[] #[],.pointer (some ⟨B,0,none⟩)] W _;have B0:=zh (hB.below hW);have HY:=zh hY;have HD:=zh hD;have J0:Hid (J [] W):=zh h0;have HM:=zh hm;clear hW hJ hY hB hD h0 hm;go_in;go_wp2_with fail;go_loopg [] 11 (fun gh wx=>∃(m':Nat) (pre:List Nat),Hid (pre++upN gh m'=upN 11 m)∧Hid (m' < 2^(gh+1)∧m' < 2048)∧Hid (J pre wx)∧Hid (ag wx B 362 1 (fun _=>.int .i64 (m':Int))));case atStart=>exact⟨m,[],zh rfl,zh ⟨by have :=HM.o;omega,HM.o⟩,J0,B0⟩
 case round=>
  clear J0 B0;obtain⟨m',pre,hL,hM,hJ,hB⟩:=hrel;obtain⟨w1,rfl⟩:=zG wr;have x0:w1.cell? ⟨B,0,none⟩=some (.int .i64 (m':Int)):=hB.cell (i:=0) (by decide);by_cases h1:1 < m'
  · have d0:decide ((1:Int) < (m':Int))=true:=zt (by omega)
    cases gk with
    | zero=>exact absurd hM.1 (by omega)
    | succ q=>
    have L2:Hid (pre++[m']++upN q (m' / 2)=upN 11 m):=zh (by
     have h:=hL.o;rw[show upN (q+1) m'=m'::upN q (m' / 2)from if_pos h1]at h
     rw[Xa];exact h)
    have PL:Hid (pre.length < (upN 11 m).length):=zh (by rw[←L2.o];simp);have M2:Hid (m' / 2 < 2^(q+1)∧m' / 2 < 2048):=zh (by have h:=hM.o;rw[Nat.pow_succ]at h;omega);have ae:=zh (HY.o pre m' w1 hJ.o PL.o);have PA:=zh (fun W=>Jn m' hM.2 W);clear h1 hL PL hM;go_upto_region 0 with fail;refine(wpIn_wide (n:=n)).1 (wpIn_region_lit (bV 5 ?_));simp only[Xe,List.take_zero,Xf,List.drop_zero];go_wp2_with fail;unfold lF;dsimp only;refine kQ rfl ?_;refine dY rfl (.tmp 6) #[.tmp 7] #[362] rfl l rfl #[.int .i64 (m':Int)] rfl ae.o ?_;clear ae x0 hJ;rintro e w2 ⟨rfl,af,ah⟩;have J2:=zh af;have B2:Hid (ag w2 B 362 1 (fun _=>.int .i64 (m':Int))):=zh (hB.of_block ah);clear af ah hB;refine⟨_,rfl,bV 1 ?_⟩;simp only[Xe,List.take_zero,Xf,List.drop_zero];go_wp2_with fail;unfold lF;dsimp only;unfold wpListIn;have x0:w2.cell? ⟨B,0,none⟩=some (.int .i64 (m':Int)):=B2.cell (i:=0) (by decide);have f0:=B2.frozen 0
    go_wp2_with fail;refine(PA.o _).mono ?_;rintro e w3 ⟨rfl,rfl⟩;have ob:=(aG.refl B w2).setCell (p:=⟨B,0,none⟩) (.inl rfl) (.int .i64 ((m' / 2:Nat):Int));have B3:Hid (ag (w2.setCell ⟨B,0,none⟩ (.int .i64 ((m' / 2:Nat):Int))) B 362 1 (fun _=>.int .i64 ((m' / 2:Nat):Int))):=zh ((B2.set 0 (.int .i64 ((m' / 2:Nat):Int))).congr (fun i hi=>by match i,hi with | 0,_=>rfl));have J3:Hid (J (pre++[m']) (w2.setCell ⟨B,0,none⟩ (.int .i64 ((m' / 2:Nat):Int)))):=zh (HD.o _ _ _ J2.o ob);clear ob J2 PA;go_wp2_with fail;go_roundg q;case measure=>omega
    case rel=>
     go_light;exact⟨m' / 2,pre++[m'],L2,M2,J3,B3⟩
  · have d0:decide ((1:Int) < (m':Int))=false:=zT (by omega)
    have FX:Hid (J (upN 11 m) w1):=zh (by
     have h:=hL.o
     have e:upN gk m'=[]:=by cases gk with
      | zero=>rfl
      | succ q=>exact if_neg h1
     rw[e,List.append_nil]at h
     rw[←h];exact hJ.o)
    clear h1 hL hM hJ;go_wp2_with fail;go_end0;exact⟨⟨_,rfl⟩,_,rfl,FX.o⟩
end Go.Proofs.YtfddbnmfllgifaaGreatDoor
