/- Part of TopMembers. -/
import Derived.StillTail
import Derived.Lib.QuietBelow
import Derived.Test.YtfddbnmfllgifaaGreatDoorA0
set_option linter.unusedVariables false
set_option linter.unusedSimpArgs false
set_option maxHeartbeats 64000000
namespace Go.Proofs.YtfddbnmfllgifaaGreatDoor
open Go
open Go.RowKit (Below)
section
variable {P:Program}{ops:Array Oper}{md:Region.Mode}
def pF:Op→Bool
 | .move _ | .assign _ | .pick _ _ _ | .load _ _ | .binOp _ _ _ _ _ | .unOp _ _ _ | .convert _ _ _ | .fieldAddr _ _ _ | .field _ _ _ | .indexAddr _ _ _ | .index _ _ _ | .lookup _ _ _ _ | .extract _ _ | .build _ _=>true
 | _=>false
abbrev Ext(w:World):World→Prop:=fun w'=>∃p:Regrown,w'=Sort.grow (redrawn w p.d) p.os
theorem nC{o:Oper}{a:Act}{C:World→Prop}{w:World}{v:Value}(h:pF o.op=true)(hq:o.quietAt P a C w v):(execOp a.eval o).run P w=.ok (.value v) w:=by
 have key:∀s:Sem Value,execOp a.eval o=(do pure (.value (←s)))→(execOp a.eval o).run P w=.ok (.value v) w:=by
  intro s hs;unfold Oper.quietAt at hq;rw[hs]at hq ⊢;simp only[Sem.run_bind]at hq ⊢
  generalize s.run P w=r at *
  cases r with
  | ok u w'=>simp only[Result.andThen_ok,Sem.run_pure,Oper.quietUpon]at hq ⊢;obtain⟨rfl,rfl⟩:=hq;rfl
  | halt x w'=>simp only[Result.andThen,Oper.quietUpon]at hq
 obtain⟨dst,op,type,pos,after,guard⟩:=o;cases op<;>first | (simp only[pF]at h;done) | (cases h;done) | skip
 all_goals first
  | exact key _ rfl
  | (unfold Oper.quietAt at hq;simp only[execOp,Sem.run_pure,Oper.quietUpon]at hq ⊢;rw[hq.2];done)
  | skip
 all_goals
  unfold Oper.quietAt at hq;simp only[execOp,Sem.run_bind]at hq ⊢
  generalize(asBool _).run P w=r at *
  cases r with
  | ok u w'=>simp only[Result.andThen_ok,Sem.run_pure,Oper.quietUpon]at hq ⊢;obtain⟨rfl,rfl⟩:=hq;rfl
  | halt x w'=>simp only[Result.andThen,Oper.quietUpon]at hq
def eH(P:Program)(ops:Array Oper)(o:Oper)(v:Value)(a:Act)(w:World):Prop:=
 (Region.wanted o (yielded ops a.tmps)=true∧∀W,Below w.heap.size w W→(execOp a.eval o).run P W=.ok (.value v) W)∨
 (Region.wanted o (yielded ops a.tmps)=false∧v=undef)
theorem eH.mono{o:Oper}{v:Value}{a:Act}{w w':World}(h:eH P ops o v a w)(hb:Below w.heap.size w w'):eH P ops o v a w':=
 h.imp (fun⟨h1,h2⟩=>⟨h1,fun W hW=>h2 W (hb.trans (hW.mono hb.size))⟩) id
theorem eH.of_same{o:Oper}{v:Value}{a a':Act}{w:World}(hy:eH P ops o v a w)(he:execOp a'.eval o=execOp a.eval o)
 (hw:Region.wanted o (yielded ops a'.tmps)=Region.wanted o (yielded ops a.tmps)):eH P ops o v a' w:=by
 unfold eH at *
 rw[he,hw];exact hy
theorem eH.rW{o:Oper}{v:Value}{a:Act}{w:World}(h:pF o.op=true)(hy:YieldsIn P ops (Ext w) o v a):eH P ops o v a w:=
 hy.imp (fun⟨h1,h2⟩=>⟨h1,fun W hW=>nC h (h2 W (regrown_of_below hW))⟩) id
theorem eH.wpOp{Q:Exit→Act→World→Prop}{i:Nat}{o:Oper}{v:Value}{a:Act}{w:World}(hi:ops[i]? =some o)(hy:eH P ops o v a w)
 {K:Act→World→Prop} (h:K (a.put o.dst v) w):wpOp P ops Q i K a w:=by
 unfold Go.wpOp;simp only[hi];rcases hy with⟨hw,hv⟩ | ⟨hw,rfl⟩
 · simp only[hw,if_true,Oper.wp,hv w (Yb _ w),Oper.upon];exact .inl h
 · simp only[hw,Bool.false_eq_true,if_false];exact h
theorem Mc{Q:Exit→Act→World→Prop}{j:Nat}{oi oj:Oper}{v:Value}{w0:World}(hj:ops[j]? =some oj)(af:oi.apart ops oj=true)
 (ag:∀cs b,oi.op≠ .select cs b) (ae:∀cs b,oj.op≠ .select cs b)
 (hQ:∀c a w,Q (.panic c) (a.put oi.dst v) w→Q (.panic c) a w) {K:Act→World→Prop} {a:Act} {w:World}
 (hy:eH P ops oi v a w0) (h:wpOp P ops Q j K (a.put oi.dst v) w):
 wpOp P ops Q j (fun a' w'=>eH P ops oi v a' w0∧K (a'.put oi.dst v) w') a w:=by
 obtain⟨h1,h2,h3⟩:=Oper.apart_spec af
 have keep:∀(a:Act),eH P ops oi v a w0→∀u,eH P ops oi v (a.put oj.dst u) w0:=fun a hy u=>
  hy.of_same (execOp_put oi ag a oj.dst u h3) (wanted_put oi a oj.dst u h3)
 have keepD:∀d,eH P ops oi v {a with defers:=d::a.defers} w0:=fun d=>hy.of_same rfl rfl
 unfold wpOp at *
 simp only[hj]at *
 rw[wanted_put oj a oi.dst v h1]at h;split
 · rename_i hw;simp only[hw,if_true]at h;rcases h with h | ⟨hasks,hlets⟩;(case inr=>exact .inr ⟨by unfold Oper.asks at *;rw[execOp_put oj ae a oi.dst v h1]at hasks;exact hasks,hlets⟩);refine .inl ?_
   unfold Oper.wp at *
   rw[execOp_put oj ae a oi.dst v h1]at h
   generalize(execOp a.eval oj).run P w=r at *
   cases r with
   | ok n w'=>
     cases n<;>simp only[Oper.upon]at h ⊢;(case value u=>exact⟨keep a hy u,by rw[←Act.put_comm a v u h2];exact h⟩);case skip=>exact⟨keep a hy _,by rw[←Act.put_comm a v undef h2];exact h⟩
     case defer d=>
      refine⟨keep _ (keepD d) _,?_⟩;rw[←Act.put_comm _ v undef h2,←Act.put_defers];exact h
     case enter f args=>
      refine Calls.mono h fun e w'' he=>?_
      cases e with
      | returned u=>exact⟨keep a hy u,by rw[←Act.put_comm a v u h2];exact he⟩
      | panicked c=>exact hQ _ _ _ he
      | outgrown=>exact he
     case row row args=>exact Rows.mono h fun u w'' he=>⟨keep a hy u,by rw[←Act.put_comm a v u h2];exact he⟩
   | halt x w'=>
     cases x<;>simp only[Oper.upon]at h ⊢;case panic u=>exact hQ _ _ _ h
 · rename_i hw;simp only[hw]at h;exact⟨keep a hy _,by rw[←Act.put_comm a v undef h2];exact h⟩
def RG(P:Program)(md:Region.Mode)(ops:Array Oper)(Q:Exit→Act→World→Prop)(n:Nat)(L:Array Bool→Act→World→Prop):Nat→Array Bool→Act→World→Prop
 | 0,listed,a,w=>L listed a w
 | f+1,listed,a,w=>
   Region.ready md ops listed≠[]∧
   ∀i∈Region.ready md ops listed,i < n∧wpOp P ops Q i (fun a' w'=>Below w.heap.size w w'∧RG P md ops Q n L f (listed.setIfInBounds i true) a' w') a w
theorem rV{n g:Nat}{L:Array Bool→Act→World→Prop}{Q:Exit→Act→World→Prop}(hL:∀listed a w,L listed a w→wpAny P md ops Q g listed a w):
 ∀(f:Nat) (listed:Array Bool) (a:Act) (w:World),RG P md ops Q n L f listed a w→wpAny P md ops Q (f+g) listed a w
 | 0,listed,a,w,h=>by rw[Yl];exact hL _ _ _ h
 | f+1,listed,a,w,h=>by
   rw[show f+1+g=(f+g)+1 by omega];exact⟨fun h0=>absurd h0 h.1,fun i hi=>wpOp_mono (fun a' w' h'=>rV hL f _ a' w' h'.2) (h.2 i hi).2⟩
theorem Jv{Q:Exit→Act→World→Prop}{n i:Nat}{oi:Oper}{v:Value}{L:Array Bool→Act→World→Prop}(hi:ops[i]? =some oi)(af:∀(j:Nat) (o:Oper) cs b,ops[j]? =some o→o.op≠ .select cs b)
 (hs:Region.sinkB md ops n=true) (hc:Region.chainB md ops n=true) (hn:n < ops.size) (ax:i < n)
 (hdone:∀listed a w,L listed a w→∀j∈Region.ready md ops listed,n≤j)
 (hQ:∀c a w,Q (.panic c) (a.put oi.dst v) w→Q (.panic c) a w):
 ∀(f:Nat) (listed:Array Bool) (a:Act) (w:World),HeadInv md ops n listed→
  (∀j oj,ops[j]? =some oj→j≠i→listed.getD j true=false→(∀e∈oj.after,Region.binds md e=true→e.on≠i)→oi.apart ops oj=true)→
  i∈Region.ready md ops listed→eH P ops oi v a w→
  RG P md ops Q n L f (listed.setIfInBounds i true) (a.put oi.dst v) w→RG P md ops Q n L (f+1) listed a w:=by
 intro f
 induction f with
 | zero=>
   intro listed a w inv _ hr hy H;have ah:=(mem_ready.1 hr).1;refine⟨fun h=>(by rw[h]at hr;cases hr),fun j hj=>?_⟩;have ai:j < n:=Nat.lt_of_not_le fun h=>tail_waits hs hc hn inv _ i rfl ax ah j h hj;refine⟨ai,?_⟩;by_cases ae:j=i
   · subst ae;exact hy.wpOp hi ⟨Yb _ w,H⟩
   · have :=hdone _ _ _ H j (ready_mono hj ae);omega
 | succ f ih=>
   intro listed a w inv hfree hr hy H;have ah:=(mem_ready.1 hr).1;refine⟨fun h=>(by rw[h]at hr;cases hr),fun j hj=>?_⟩;have ai:j < n:=Nat.lt_of_not_le fun h=>tail_waits hs hc hn inv _ i rfl ax ah j h hj;refine⟨ai,?_⟩;by_cases ae:j=i
   · subst ae;exact hy.wpOp hi ⟨Yb _ w,H⟩
   · have h1:=(H.2 j (ready_mono hj ae)).2;obtain⟨ag,oj,aj,ak⟩:=mem_ready.1 hj
     have au:∀e∈oj.after,Region.binds md e=true→e.on≠i:=fun e he hb heq=>by
      have h1:=ak e he hb;rw[heq,getD_both ah]at h1;cases h1
     have h2:=Mc aj (hfree j oj aj ae ag au) (fun cs b=>af i oi cs b hi) (fun cs b=>af j oj cs b aj) hQ hy h1
     have hfree':∀k ok,ops[k]? =some ok→k≠i→(listed.setIfInBounds j true).getD k true=false→
      (∀e∈ok.after,Region.binds md e=true→e.on≠i)→oi.apart ops ok=true:=fun k ok hk az hun' aA=>by
      refine hfree k ok hk az ?_ aA;by_cases ay:j=k
      · subst ay;exact ag
      · rw[getD_set_ne true ay]at hun';exact hun'
     refine wpOp_mono (fun a' w' h3=>⟨h3.2.1,ih (listed.setIfInBounds j true) a' w' (inv.set hj ai) hfree' (ready_mono hr (Ne.symm ae)) (h3.1.mono h3.2.1) ?_⟩) h2;rw[Array.setIfInBounds_comm _ _ ae];exact h3.2.2
inductive gJ where
 | done
 | fl (i:Nat) (p:gJ)
 | one (i:Nat) (p:gJ)
 | two (i j:Nat) (p q:gJ)
def fH(md:Region.Mode)(ops:Array Oper)(g n:Nat):Nat→gJ→Array Bool→Bool
 | 0,.done,listed=>Region.seqB md ops g n listed
 | f+1,.fl i p,listed=>(Region.ready md ops listed).contains i&&Region.free md ops listed i&&((ops[i]?).map (pF ·.op)).getD false&&decide (i < n)&&fH md ops g n f p (listed.setIfInBounds i true)
 | f+1,.one i p,listed=>(Region.ready md ops listed==[i])&&decide (i < n)&&fH md ops g n f p (listed.setIfInBounds i true)
 | f+1,.two i j p q,listed=>(Region.ready md ops listed==[i,j])&&decide (i < n)&&decide (j < n)&&fH md ops g n f p (listed.setIfInBounds i true)&&fH md ops g n f q (listed.setIfInBounds j true)
 | _,_,_=>false
def bF(P:Program)(ops:Array Oper)(Q:Exit→Act→World→Prop)(n:Nat):gJ→Act→World→Prop
 | .done,a,w=>wpList P ops Q (ops.toList.drop n) a w
 | .fl i p,a,w=>qOp P ops (Ext w) i (fun a'=>bF P ops Q n p a' w) a
 | .one i p,a,w=>wpOp P ops Q i (fun a' w'=>Below w.heap.size w w'∧bF P ops Q n p a' w') a w
 | .two i j p q,a,w=>wpOp P ops Q i (fun a' w'=>Below w.heap.size w w'∧bF P ops Q n p a' w') a w∧wpOp P ops Q j (fun a' w'=>Below w.heap.size w w'∧bF P ops Q n q a' w') a w
theorem dB{g n:Nat}{Q:Exit→Act→World→Prop}(ae:Region.noSelect ops=true)(hs:Region.sinkB md ops n=true)(hc:Region.chainB md ops n=true)(hn:n < ops.size)(hQ:∀(d:Option Tmp) v c a w,Q (.panic c) (a.put d v) w→Q (.panic c) a w):
 ∀(f:Nat) (s:gJ) (listed:Array Bool) (a:Act) (w:World),HeadInv md ops n listed→fH md ops g n f s listed=true→bF P ops Q n s a w→
  RG P md ops Q n (fun listed' a' w'=>Region.seqB md ops g n listed'=true∧wpList P ops Q (ops.toList.drop n) a' w') f listed a w
 | 0,.done,listed,a,w,inv,hB,h=>⟨hB,h⟩
 | f+1,.fl i r,listed,a,w,inv,hB,h=>by
   simp only[fH,Bool.and_eq_true,decide_eq_true_eq]at hB;obtain⟨⟨⟨⟨hr,hf⟩,aj⟩,af⟩,hB'⟩:=hB;have hr':i∈Region.ready md ops listed:=(by simpa using hr);obtain⟨_,oi,ag,_⟩:=mem_ready.1 hr';obtain⟨v,hy,hK⟩:=yieldsIn_of_qOp ag h;exact Jv ag (Region.noSelect_spec ae) hs hc hn af (fun listed' a' w' hL=>seqB_ready hL.1) (fun c a w=>hQ _ _ c a w) _ listed a w inv (Region.free_spec ag hf) hr' (eH.rW (by simpa[ag]using aj) hy) (dB ae hs hc hn hQ f r _ _ w (inv.set hr' af) hB' hK)
 | f+1,.one i r,listed,a,w,inv,hB,h=>by
   simp only[fH,Bool.and_eq_true,beq_iff_eq,decide_eq_true_eq]at hB;obtain⟨⟨hr,af⟩,hB'⟩:=hB;refine⟨fun h0=>(by rw[h0]at hr;cases hr),fun j hj=>?_⟩;have ah:=hj;rw[hr]at hj;obtain rfl:j=i:=(by simpa using hj);exact⟨af,wpOp_mono (fun a' w' h'=>⟨h'.1,dB ae hs hc hn hQ f r _ a' w' (inv.set ah af) hB' h'.2⟩) h⟩
 | f+1,.two i i' r r',listed,a,w,inv,hB,h=>by
   simp only[fH,Bool.and_eq_true,beq_iff_eq,decide_eq_true_eq]at hB;obtain⟨⟨⟨⟨hr,af⟩,hin'⟩,hB'⟩,ai⟩:=hB;refine⟨fun h0=>(by rw[h0]at hr;cases hr),fun j hj=>?_⟩;have ah:=hj;rw[hr]at hj;have hj':j=i∨j=i':=(by simpa using hj);rcases hj' with rfl | rfl
   · exact⟨af,wpOp_mono (fun a' w' h'=>⟨h'.1,dB ae hs hc hn hQ f r _ a' w' (inv.set ah af) hB' h'.2⟩) h.1⟩
   · exact⟨hin',wpOp_mono (fun a' w' h'=>⟨h'.1,dB ae hs hc hn hQ f r' _ a' w' (inv.set ah hin') ai h'.2⟩) h.2⟩
def calm(Q:Exit→Act→World→Prop):Exit→Act→World→Prop:=fun e a w=>match e with | .panic _=>False | e=>Q e a w
theorem aF{n:Nat}{Q:Exit→Act→World→Prop}{a:Act}{w:World}{l:List Oper}(hl:ops.toList.drop n=l)
 (h:∀K:Exit→Act→World→Prop,(∀a' w',Q .normal a' w'→K .normal a' w')→wpList P ops K l a w):bF P ops (calm Q) n .done a w:=by
 show wpList P ops (calm Q) (ops.toList.drop n) a w;rw[hl];exact h _ (fun _ _ h=>h)
theorem aA{id:Nat}{Q:Exit→Act→World→Prop}{a:Act}{w:World}{l:List Oper}(n:Nat)(s:gJ)(hm:P.follows .mixedOrders=true)
 (hB:(Region.noSelect l.toArray&&decide (n < l.toArray.size)&&Region.sinkB .any l.toArray n&&Region.chainB .any l.toArray n&&fH .any l.toArray (l.toArray.size - n) n n s (Array.replicate l.toArray.size false))=true)
 (h:∀w',Below w.heap.size w w'→w'.heap.size=w.heap.size→bF P l.toArray (calm Q) n s a w'):(Code.region id l.toArray true).wp P Q a w:=by
 simp only[Bool.and_eq_true,decide_eq_true_eq]at hB;obtain⟨⟨⟨⟨ae,hn⟩,hs⟩,hc⟩,hB⟩:=hB;refine Code.wp_mono (Q:=calm Q) (fun e a w h=>by cases e<;>first | exact h | exact h.elim) (wp_region_any hm ?_);have af:(l.drop n).length=l.toArray.size - n:=by simp
 have inv0:HeadInv .any l.toArray n (Array.replicate l.toArray.size false):=
  ⟨by simp,fun j oj _ hl=>(by rw[getD_replicate_false]at hl;cases hl),fun t _ ht=>getD_in (by simpa using ht) (getD_replicate_false _ _)⟩
 have H:=dB (P:=P) (Q:=calm Q) ae hs hc hn (fun _ _ _ _ _ h=>h) n s _ a w.drew inv0 hB (h _ (Yb _ w).drew rfl)
 have :=rV (g:=l.toArray.size - n) (fun listed' a' w' hL=>by
  have :=wpAny_of_seq (ops:=l.toArray) (md:=.any) (Q':=calm Q) (l.drop n) n listed' a' w' (fun j=>by simp[List.getElem?_drop]) (by rw[af];exact hL.1) (by simpa using hL.2)
  rwa[af]at this) _ _ _ _ H
 rw[show n+(l.toArray.size - n)=l.toArray.size by omega]at this;exact this
def sU:List Nat→gJ→gJ
 | [],p=>p
 | i::is,p=>.fl i (sU is p)
theorem aj{n:Nat}{Q:Exit→Act→World→Prop}{w:World}{r:gJ}:∀(is:List Nat) (os:List Oper) {a:Act},is.mapM (ops[·]?)=some os→
 wpQuiet P ops (Ext w) (fun a'=>bF P ops Q n r a' w) os a→bF P ops Q n (sU is r) a w
 | [],os,a,h,hq=>by
   simp only[List.mapM_nil,Option.pure_def,Option.some.injEq]at h;subst h;exact hq
 | i::is,os,a,h,hq=>by
   simp only[List.mapM_cons,Option.bind_eq_bind,Option.bind_eq_some_iff,Option.pure_def,Option.some.injEq]at h;obtain⟨o,ho,os',ae,rfl⟩:=h;show qOp P ops (Ext w) i (fun a'=>bF P ops Q n (sU is r) a' w) a;unfold qOp;simp only[ho];unfold wpQuiet at hq;split
   · rename_i hw;simp only[hw,if_true]at hq;exact Oper.quiet_mono (fun a' h'=>aj is os' ae h') hq
   · rename_i hw;simp only[hw]at hq;exact aj is os' ae hq
theorem jf{n:Nat}{Q:Exit→Act→World→Prop}{a:Act}{w:World}{r:gJ}(i:Nat){o:Oper}(ho:ops[i]? =some o)
 (h:∀K:Exit→Act→World→Prop,(∀a' w',Below w.heap.size w w'→bF P ops Q n r a' w'→K .normal a' w')→wpList P ops K [o] a w):
 wpOp P ops Q i (fun a' w'=>Below w.heap.size w w'∧bF P ops Q n r a' w') a w:=by
 have h1:=h (fun e a' w'=>match e with | .normal=>Below w.heap.size w w'∧bF P ops Q n r a' w' | e=>Q e a' w') (fun a' w' hb hp=>⟨hb,hp⟩);unfold wpOp;simp only[ho];unfold wpList at h1;split
 · rename_i hw;simp only[hw,if_true]at h1;refine h1.imp (fun h2=>?_) (fun h2=>⟨h2.1,h2.2⟩)
   unfold Oper.wp at *
   generalize(execOp a.eval o).run P w=x at *
   cases x with
   | ok n w'=>
     cases n<;>simp only[Oper.upon]at h2 ⊢<;>
      first
       | exact h2
       | exact Calls.mono h2 (fun e w'' he=>by cases e<;>exact he)
       | exact Rows.mono h2 (fun _ _ he=>he)
   | halt x w'=>cases x<;>simp only[Oper.upon]at h2 ⊢<;>exact h2
 · rename_i hw;simp only[hw]at h1;exact h1
theorem ae{n:Nat}{Q:Exit→Act→World→Prop}{a:Act}{w:World}{r:gJ}(i:Nat){o:Oper}(ho:ops[i]? =some o)
 (h:∀K:Exit→Act→World→Prop,(∀a' w',Below w.heap.size w w'→bF P ops Q n r a' w'→K .normal a' w')→wpList P ops K [o] a w):bF P ops Q n (.one i r) a w:=jf i ho h
theorem fK{n:Nat}{Q:Exit→Act→World→Prop}{a:Act}{w:World}{r r':gJ}(i j:Nat){o o':Oper}(ho:ops[i]? =some o)(ho':ops[j]? =some o')
 (h:∀K:Exit→Act→World→Prop,(∀a' w',Below w.heap.size w w'→bF P ops Q n r a' w'→K .normal a' w')→wpList P ops K [o] a w)
 (h':∀K:Exit→Act→World→Prop,(∀a' w',Below w.heap.size w w'→bF P ops Q n r' a' w'→K .normal a' w')→wpList P ops K [o'] a w):bF P ops Q n (.two i j r r') a w:=⟨jf i ho h,jf j ho' h'⟩
end
#print axioms aA
end Go.Proofs.YtfddbnmfllgifaaGreatDoor
namespace Go.Proofs.YtfddbnmfllgifaaGreatDoor
open Go
open Go.RowKit (Below)
section
variable {P:Program}{ops:Array Oper}{md:Region.Mode}
end
end Go.Proofs.YtfddbnmfllgifaaGreatDoor
namespace Go.Proofs.YtfddbnmfllgifaaGreatDoor
open Go
open Go.RowKit (Below)
namespace St
section
variable {P:Program}{ops:Array Oper}{md:Region.Mode}
end
end St
end Go.Proofs.YtfddbnmfllgifaaGreatDoor
namespace Go.Proofs.YtfddbnmfllgifaaGreatDoor
open Go
open Go.RowKit (Below)
namespace Nn
section
variable {P:Program}{ops:Array Oper}{md:Region.Mode}{n0:Nat}
end
end Nn
end Go.Proofs.YtfddbnmfllgifaaGreatDoor
namespace Go.Proofs.YtfddbnmfllgifaaGreatDoor
open Go
open Go.RowKit (Below)
namespace Tc
structure Rl where
 r:World→World→Prop
 refl:∀w,r w w
 trans:∀{a b c},r a b→r b c→r a c
def Rl.stay(S:Nat→Prop):Rl:=⟨fun w w'=>∀k,S k→w'.heap[k]? =w.heap[k]?,fun _ _ _=>rfl,fun h1 h2 k hk=>(h2 k hk).trans (h1 k hk)⟩
section
variable {P:Program}{ops:Array Oper}{md:Region.Mode}{n0:Rl}
def Ir:Op→Bool
 | .slice _ _ _ _ _=>true
 | .nilCheck _=>true
 | .call ⟨.builtin .len,_,_⟩=>true
 | o=>pF o
theorem Ai{o:Oper}{a:Act}{C:World→Prop}{w:World}{v:Value}(s:Sem Value)(hs:execOp a.eval o=(do pure (.value (←s))))(hq:o.quietAt P a C w v):(execOp a.eval o).run P w=.ok (.value v) w:=by
 unfold Oper.quietAt at hq;rw[hs]at hq ⊢;simp only[Sem.run_bind]at hq ⊢
 generalize s.run P w=r at *
 cases r with
 | ok u w'=>simp only[Result.andThen_ok,Sem.run_pure,Oper.quietUpon]at hq ⊢;obtain⟨rfl,rfl⟩:=hq;rfl
 | halt x w'=>simp only[Result.andThen,Oper.quietUpon]at hq
theorem AY{o:Oper}{a:Act}{C:World→Prop}{w:World}{v:Value}(h:Ir o.op=true)(hq:o.quietAt P a C w v):(execOp a.eval o).run P w=.ok (.value v) w:=by
 by_cases hr:pF o.op=true
 · exact nC hr hq
 · obtain⟨dst,op,type,pos,after,guard⟩:=o;cases op;case slice=>exact Ai _ rfl hq
   case nilCheck x=>
    unfold Oper.quietAt at hq
    have hv:∀n w',(execOp a.eval ⟨dst,.nilCheck x,type,pos,after,guard⟩).run P w=.ok n w'→∃u,n=.value u:=by
     intro n w' h;unfold execOp at h;dsimp only at h;split at h
     · simp[go_sem]at h
     · simp[go_sem]at h
     · simp[go_sem]at h
     · split at h
       · simp[go_sem]at h
       · simp only[Sem.run_bind]at h;generalize hr0:Sem.run P _ w=r0 at h
         cases r0 with
         | halt y w2=>simp[Result.andThen]at h
         | ok y w2=>
           simp only[Result.andThen_ok]at h;generalize hr2:Sem.run P _ w2=r2 at h
           cases r2 with
           | halt y w3=>simp[Result.andThen]at h
           | ok y w3=>
             simp only[Result.andThen_ok]at h;split at h
             · simp only[Sem.run_bind]at h;generalize hr1:Sem.run P _ w3=r1 at h
               cases r1 with
               | halt y w4=>simp[Result.andThen]at h
               | ok y w4=>
                 simp only[Result.andThen_ok,Sem.run_pure,Result.ok.injEq]at h;exact⟨_,h.1.symm⟩
             · simp only[Sem.run_pure,Result.ok.injEq]at h;exact⟨_,h.1.symm⟩
       · simp only[Sem.run_pure,Result.ok.injEq]at h;exact⟨_,h.1.symm⟩
     · simp only[Sem.run_pure,Result.ok.injEq]at h;exact⟨_,h.1.symm⟩
    generalize(execOp a.eval ⟨dst,.nilCheck x,type,pos,after,guard⟩).run P w=r at *
    cases r with
    | halt y w'=>exact hq.elim
    | ok n w'=>
      obtain⟨u,rfl⟩:=hv n w' rfl;obtain⟨rfl,rfl⟩:=hq;rfl
   case call c=>
    obtain⟨callee,args,ae⟩:=c;cases callee
    case builtin b=>
     cases b;(case len=>exact Ai _ rfl hq);all_goals exact absurd h hr
    all_goals exact absurd h hr
   all_goals exact absurd h hr
def lV:Op→Bool
 | .move _ | .assign _ | .extract _ _=>true
 | _=>false
def bT(P:Program)(ops:Array Oper)(o:Oper)(v:Value)(a:Act):Prop:=
 (Region.wanted o (yielded ops a.tmps)=true∧∀W,(execOp a.eval o).run P W=.ok (.value v) W)∨
 (Region.wanted o (yielded ops a.tmps)=false∧v=undef)
theorem bT.of_same{o:Oper}{v:Value}{a a':Act}(hy:bT P ops o v a)(he:execOp a'.eval o=execOp a.eval o)
 (hw:Region.wanted o (yielded ops a'.tmps)=Region.wanted o (yielded ops a.tmps)):bT P ops o v a':=by
 unfold bT at *
 rw[he,hw];exact hy
theorem jM{o:Oper}{a:Act}{C:World→Prop}{w:World}{v:Value}(h:lV o.op=true)(hq:o.quietAt P a C w v):∀W,(execOp a.eval o).run P W=.ok (.value v) W:=by
 obtain⟨dst,op,type,pos,after,guard⟩:=o;intro W;cases op<;>first | (simp only[lV]at h;done) | (cases h;done) | skip
 case extract t k=>
  unfold Oper.quietAt at hq;simp only[execOp,Instr.extract,Sem.run_bind]at hq ⊢;generalize a.eval t=u at hq ⊢;have stk:∀(s:String) (W:World),∃x,(stuck s:Sem Value).run P W=.halt x W:=fun s W=>⟨_,rfl⟩;cases u
  case tuple vs=>
   dsimp only at hq ⊢
   cases he:vs[k]? with
   | none=>
     obtain⟨x,hx⟩:=stk "Extract: no such component" w;rw[he]at hq;dsimp only at hq;rw[hx]at hq;exact absurd hq (by simp[Oper.quietUpon,Result.andThen])
   | some y=>
     rw[he]at hq;dsimp only at hq ⊢;simp only[Sem.run_pure,Result.andThen_ok,Oper.quietUpon]at hq ⊢;rw[hq.2]
  all_goals
   obtain⟨x,hx⟩:=stk "Extract: tuple expected" w;dsimp only at hq;rw[hx]at hq;exact absurd hq (by simp[Oper.quietUpon,Result.andThen])
 all_goals
  unfold Oper.quietAt at hq;simp only[execOp,Sem.run_pure,Oper.quietUpon]at hq ⊢;rw[hq.2]
theorem bT.rW{o:Oper}{v:Value}{a:Act}{C:World→Prop}{w:World}(hw:C w)(h:lV o.op=true)(hy:YieldsIn P ops C o v a):bT P ops o v a:=
 hy.imp (fun⟨h1,h2⟩=>⟨h1,jM h (h2 w hw)⟩) id
theorem bT.wpOp{Q:Exit→Act→World→Prop}{i:Nat}{o:Oper}{v:Value}{a:Act}{w:World}(hi:ops[i]? =some o)(hy:bT P ops o v a)
 {K:Act→World→Prop} (h:K (a.put o.dst v) w):Go.wpOp P ops Q i K a w:=by
 unfold Go.wpOp;simp only[hi];rcases hy with⟨hw,hv⟩ | ⟨hw,rfl⟩
 · simp only[hw,if_true,Oper.wp,hv w,Oper.upon];exact .inl h
 · simp only[hw,Bool.false_eq_true,if_false];exact h
theorem Ou{Q:Exit→Act→World→Prop}{j:Nat}{oi oj:Oper}{v:Value}(hj:ops[j]? =some oj)(af:oi.apart ops oj=true)
 (ag:∀cs b,oi.op≠ .select cs b) (ae:∀cs b,oj.op≠ .select cs b)
 (hQ:∀c a w,Q (.panic c) (a.put oi.dst v) w→Q (.panic c) a w) {K:Act→World→Prop} {a:Act} {w:World}
 (hy:bT P ops oi v a) (h:wpOp P ops Q j K (a.put oi.dst v) w):
 wpOp P ops Q j (fun a' w'=>bT P ops oi v a'∧K (a'.put oi.dst v) w') a w:=by
 obtain⟨h1,h2,h3⟩:=Oper.apart_spec af
 have keep:∀(a:Act),bT P ops oi v a→∀u,bT P ops oi v (a.put oj.dst u):=fun a hy u=>
  hy.of_same (execOp_put oi ag a oj.dst u h3) (wanted_put oi a oj.dst u h3)
 have keepD:∀d,bT P ops oi v {a with defers:=d::a.defers}:=fun d=>hy.of_same rfl rfl
 unfold wpOp at *
 simp only[hj]at *
 rw[wanted_put oj a oi.dst v h1]at h;split
 · rename_i hw;simp only[hw,if_true]at h;rcases h with h | ⟨hasks,hlets⟩;(case inr=>exact .inr ⟨by unfold Oper.asks at *;rw[execOp_put oj ae a oi.dst v h1]at hasks;exact hasks,hlets⟩);refine .inl ?_
   unfold Oper.wp at *
   rw[execOp_put oj ae a oi.dst v h1]at h
   generalize(execOp a.eval oj).run P w=r at *
   cases r with
   | ok n w'=>
     cases n<;>simp only[Oper.upon]at h ⊢;(case value u=>exact⟨keep a hy u,by rw[←Act.put_comm a v u h2];exact h⟩);case skip=>exact⟨keep a hy _,by rw[←Act.put_comm a v undef h2];exact h⟩
     case defer d=>
      refine⟨keep _ (keepD d) _,?_⟩;rw[←Act.put_comm _ v undef h2,←Act.put_defers];exact h
     case enter f args=>
      refine Calls.mono h fun e w'' he=>?_
      cases e with
      | returned u=>exact⟨keep a hy u,by rw[←Act.put_comm a v u h2];exact he⟩
      | panicked c=>exact hQ _ _ _ he
      | outgrown=>exact he
     case row row args=>exact Rows.mono h fun u w'' he=>⟨keep a hy u,by rw[←Act.put_comm a v u h2];exact he⟩
   | halt x w'=>
     cases x<;>simp only[Oper.upon]at h ⊢;case panic u=>exact hQ _ _ _ h
 · rename_i hw;simp only[hw]at h;exact⟨keep a hy _,by rw[←Act.put_comm a v undef h2];exact h⟩
def cZ(n0:Rl)(P:Program)(ops:Array Oper)(o:Oper)(v:Value)(a:Act)(w:World):Prop:=
 (Region.wanted o (yielded ops a.tmps)=true∧∀W,n0.r w W→(execOp a.eval o).run P W=.ok (.value v) W)∨
 (Region.wanted o (yielded ops a.tmps)=false∧v=undef)
theorem cZ.mono{o:Oper}{v:Value}{a:Act}{w w':World}(h:cZ n0 P ops o v a w)(hb:n0.r w w'):cZ n0 P ops o v a w':=
 h.imp (fun⟨h1,h2⟩=>⟨h1,fun W hW=>h2 W (n0.trans hb hW)⟩) id
theorem cZ.of_same{o:Oper}{v:Value}{a a':Act}{w:World}(hy:cZ n0 P ops o v a w)(he:execOp a'.eval o=execOp a.eval o)
 (hw:Region.wanted o (yielded ops a'.tmps)=Region.wanted o (yielded ops a.tmps)):cZ n0 P ops o v a' w:=by
 unfold cZ at *
 rw[he,hw];exact hy
theorem cZ.rW{o:Oper}{v:Value}{a:Act}{w:World}(h:Ir o.op=true)(hy:YieldsIn P ops (n0.r w) o v a):cZ n0 P ops o v a w:=
 hy.imp (fun⟨h1,h2⟩=>⟨h1,fun W hW=>AY h (h2 W hW)⟩) id
theorem cZ.wpOp{Q:Exit→Act→World→Prop}{i:Nat}{o:Oper}{v:Value}{a:Act}{w:World}(hi:ops[i]? =some o)(hy:cZ n0 P ops o v a w)
 {K:Act→World→Prop} (h:K (a.put o.dst v) w):Go.wpOp P ops Q i K a w:=by
 unfold Go.wpOp;simp only[hi];rcases hy with⟨hw,hv⟩ | ⟨hw,rfl⟩
 · simp only[hw,if_true,Oper.wp,hv w (n0.refl w),Oper.upon];exact .inl h
 · simp only[hw,Bool.false_eq_true,if_false];exact h
theorem Pn{Q:Exit→Act→World→Prop}{j:Nat}{oi oj:Oper}{v:Value}{w0:World}(hj:ops[j]? =some oj)(af:oi.apart ops oj=true)
 (ag:∀cs b,oi.op≠ .select cs b) (ae:∀cs b,oj.op≠ .select cs b)
 (hQ:∀c a w,Q (.panic c) (a.put oi.dst v) w→Q (.panic c) a w) {K:Act→World→Prop} {a:Act} {w:World}
 (hy:cZ n0 P ops oi v a w0) (h:wpOp P ops Q j K (a.put oi.dst v) w):
 wpOp P ops Q j (fun a' w'=>cZ n0 P ops oi v a' w0∧K (a'.put oi.dst v) w') a w:=by
 obtain⟨h1,h2,h3⟩:=Oper.apart_spec af
 have keep:∀(a:Act),cZ n0 P ops oi v a w0→∀u,cZ n0 P ops oi v (a.put oj.dst u) w0:=fun a hy u=>
  hy.of_same (execOp_put oi ag a oj.dst u h3) (wanted_put oi a oj.dst u h3)
 have keepD:∀d,cZ n0 P ops oi v {a with defers:=d::a.defers} w0:=fun d=>hy.of_same rfl rfl
 unfold wpOp at *
 simp only[hj]at *
 rw[wanted_put oj a oi.dst v h1]at h;split
 · rename_i hw;simp only[hw,if_true]at h;rcases h with h | ⟨hasks,hlets⟩;(case inr=>exact .inr ⟨by unfold Oper.asks at *;rw[execOp_put oj ae a oi.dst v h1]at hasks;exact hasks,hlets⟩);refine .inl ?_
   unfold Oper.wp at *
   rw[execOp_put oj ae a oi.dst v h1]at h
   generalize(execOp a.eval oj).run P w=r at *
   cases r with
   | ok n w'=>
     cases n<;>simp only[Oper.upon]at h ⊢;(case value u=>exact⟨keep a hy u,by rw[←Act.put_comm a v u h2];exact h⟩);case skip=>exact⟨keep a hy _,by rw[←Act.put_comm a v undef h2];exact h⟩
     case defer d=>
      refine⟨keep _ (keepD d) _,?_⟩;rw[←Act.put_comm _ v undef h2,←Act.put_defers];exact h
     case enter f args=>
      refine Calls.mono h fun e w'' he=>?_
      cases e with
      | returned u=>exact⟨keep a hy u,by rw[←Act.put_comm a v u h2];exact he⟩
      | panicked c=>exact hQ _ _ _ he
      | outgrown=>exact he
     case row row args=>exact Rows.mono h fun u w'' he=>⟨keep a hy u,by rw[←Act.put_comm a v u h2];exact he⟩
   | halt x w'=>
     cases x<;>simp only[Oper.upon]at h ⊢;case panic u=>exact hQ _ _ _ h
 · rename_i hw;simp only[hw]at h;exact⟨keep a hy _,by rw[←Act.put_comm a v undef h2];exact h⟩
def Iq(n0:Rl)(P:Program)(md:Region.Mode)(ops:Array Oper)(Q:Exit→Act→World→Prop)(ST:List Nat)(n:Nat)(L:Array Bool→Act→World→Prop):Nat→Array Bool→Act→World→Prop
 | 0,listed,a,w=>L listed a w
 | f+1,listed,a,w=>
   Region.ready md ops listed≠[]∧
   ∀i∈Region.ready md ops listed,i < n∧wpOp P ops Q i (fun a' w'=>(ST.contains i=false→n0.r w w')∧Iq n0 P md ops Q ST n L f (listed.setIfInBounds i true) a' w') a w
theorem mM{ST:List Nat}{n g:Nat}{L:Array Bool→Act→World→Prop}{Q:Exit→Act→World→Prop}(hL:∀listed a w,L listed a w→wpAny P md ops Q g listed a w):
 ∀(f:Nat) (listed:Array Bool) (a:Act) (w:World),Iq n0 P md ops Q ST n L f listed a w→wpAny P md ops Q (f+g) listed a w
 | 0,listed,a,w,h=>by rw[Yl];exact hL _ _ _ h
 | f+1,listed,a,w,h=>by
   rw[show f+1+g=(f+g)+1 by omega];exact⟨fun h0=>absurd h0 h.1,fun i hi=>wpOp_mono (fun a' w' h'=>mM hL f _ a' w' h'.2) (h.2 i hi).2⟩
abbrev JM(md:Region.Mode)(ops:Array Oper)(n:Nat):Prop:=∀listed,HeadInv md ops n listed→∀i,i < n→listed.getD i true=false→∀t,n≤t→t∉Region.ready md ops listed
theorem QX{Q:Exit→Act→World→Prop}{n i:Nat}{oi:Oper}{v:Value}{L:Array Bool→Act→World→Prop}(hi:ops[i]? =some oi)(af:∀(j:Nat) (o:Oper) cs b,ops[j]? =some o→o.op≠ .select cs b)
 {ST:List Nat} (TW:JM md ops n) (az:∀s∈ST,∀os,ops[s]? =some os→∃e∈os.after,Region.binds md e=true∧e.on=i) (ax:i < n)
 (hdone:∀listed a w,L listed a w→∀j∈Region.ready md ops listed,n≤j)
 (hQ:∀c a w,Q (.panic c) (a.put oi.dst v) w→Q (.panic c) a w):
 ∀(f:Nat) (listed:Array Bool) (a:Act) (w:World),HeadInv md ops n listed→
  (∀j oj,ops[j]? =some oj→j≠i→listed.getD j true=false→(∀e∈oj.after,Region.binds md e=true→e.on≠i)→oi.apart ops oj=true)→
  i∈Region.ready md ops listed→cZ n0 P ops oi v a w→
  Iq n0 P md ops Q ST n L f (listed.setIfInBounds i true) (a.put oi.dst v) w→Iq n0 P md ops Q ST n L (f+1) listed a w:=by
 intro f
 induction f with
 | zero=>
   intro listed a w inv _ hr hy H;have ai:=(mem_ready.1 hr).1;refine⟨fun h=>(by rw[h]at hr;cases hr),fun j hj=>?_⟩;have aj:j < n:=Nat.lt_of_not_le fun h=>TW _ inv i ax ai j h hj;refine⟨aj,?_⟩;by_cases ae:j=i
   · subst ae;exact hy.wpOp hi ⟨fun _=>n0.refl w,H⟩
   · have :=hdone _ _ _ H j (ready_mono hj ae);omega
 | succ f ih=>
   intro listed a w inv hfree hr hy H;have ai:=(mem_ready.1 hr).1;refine⟨fun h=>(by rw[h]at hr;cases hr),fun j hj=>?_⟩;have aj:j < n:=Nat.lt_of_not_le fun h=>TW _ inv i ax ai j h hj;refine⟨aj,?_⟩;by_cases ae:j=i
   · subst ae;exact hy.wpOp hi ⟨fun _=>n0.refl w,H⟩
   · have h1:=(H.2 j (ready_mono hj ae)).2;obtain⟨ag,oj,ak,au⟩:=mem_ready.1 hj
     have ah:∀e∈oj.after,Region.binds md e=true→e.on≠i:=fun e he hb heq=>by
      have h1:=au e he hb;rw[heq,getD_both ai]at h1;cases h1
     have aA:ST.contains j=false:=by
      cases hc:ST.contains j with
      | false=>rfl
      | true=>
        obtain⟨e,he,hb,heq⟩:=az j (by simpa using hc) oj ak;exact absurd heq (ah e he hb)
     have h2:=Pn ak (hfree j oj ak ae ag ah) (fun cs b=>af i oi cs b hi) (fun cs b=>af j oj cs b ak) hQ hy h1
     have hfree':∀k ok,ops[k]? =some ok→k≠i→(listed.setIfInBounds j true).getD k true=false→
      (∀e∈ok.after,Region.binds md e=true→e.on≠i)→oi.apart ops ok=true:=fun k ok hk aB hun' aC=>by
      refine hfree k ok hk aB ?_ aC;by_cases ay:j=k
      · subst ay;exact ag
      · rw[getD_set_ne true ay]at hun';exact hun'
     refine wpOp_mono (fun a' w' h3=>⟨h3.2.1,ih (listed.setIfInBounds j true) a' w' (inv.set hj aj) hfree' (ready_mono hr (Ne.symm ae)) (h3.1.mono (h3.2.1 aA)) ?_⟩) h2;rw[Array.setIfInBounds_comm _ _ ae];exact h3.2.2
theorem MR{Q:Exit→Act→World→Prop}{n i:Nat}{oi:Oper}{v:Value}{L:Array Bool→Act→World→Prop}(hi:ops[i]? =some oi)(af:∀(j:Nat) (o:Oper) cs b,ops[j]? =some o→o.op≠ .select cs b)
 {ST:List Nat} (TW:JM md ops n) (ax:i < n)
 (hdone:∀listed a w,L listed a w→∀j∈Region.ready md ops listed,n≤j)
 (hQ:∀c a w,Q (.panic c) (a.put oi.dst v) w→Q (.panic c) a w):
 ∀(f:Nat) (listed:Array Bool) (a:Act) (w:World),HeadInv md ops n listed→
  (∀j oj,ops[j]? =some oj→j≠i→listed.getD j true=false→(∀e∈oj.after,Region.binds md e=true→e.on≠i)→oi.apart ops oj=true)→
  i∈Region.ready md ops listed→bT P ops oi v a→
  Iq n0 P md ops Q ST n L f (listed.setIfInBounds i true) (a.put oi.dst v) w→Iq n0 P md ops Q ST n L (f+1) listed a w:=by
 intro f
 induction f with
 | zero=>
   intro listed a w inv _ hr hy H;have ah:=(mem_ready.1 hr).1;refine⟨fun h=>(by rw[h]at hr;cases hr),fun j hj=>?_⟩;have ai:j < n:=Nat.lt_of_not_le fun h=>TW _ inv i ax ah j h hj;refine⟨ai,?_⟩;by_cases ae:j=i
   · subst ae;exact hy.wpOp hi ⟨fun _=>n0.refl w,H⟩
   · have :=hdone _ _ _ H j (ready_mono hj ae);omega
 | succ f ih=>
   intro listed a w inv hfree hr hy H;have ah:=(mem_ready.1 hr).1;refine⟨fun h=>(by rw[h]at hr;cases hr),fun j hj=>?_⟩;have ai:j < n:=Nat.lt_of_not_le fun h=>TW _ inv i ax ah j h hj;refine⟨ai,?_⟩;by_cases ae:j=i
   · subst ae;exact hy.wpOp hi ⟨fun _=>n0.refl w,H⟩
   · have h1:=(H.2 j (ready_mono hj ae)).2;obtain⟨ag,oj,aj,ak⟩:=mem_ready.1 hj
     have au:∀e∈oj.after,Region.binds md e=true→e.on≠i:=fun e he hb heq=>by
      have h1:=ak e he hb;rw[heq,getD_both ah]at h1;cases h1
     have h2:=Ou aj (hfree j oj aj ae ag au) (fun cs b=>af i oi cs b hi) (fun cs b=>af j oj cs b aj) hQ hy h1
     have hfree':∀k ok,ops[k]? =some ok→k≠i→(listed.setIfInBounds j true).getD k true=false→
      (∀e∈ok.after,Region.binds md e=true→e.on≠i)→oi.apart ops ok=true:=fun k ok hk az hun' aA=>by
      refine hfree k ok hk az ?_ aA;by_cases ay:j=k
      · subst ay;exact ag
      · rw[getD_set_ne true ay]at hun';exact hun'
     refine wpOp_mono (fun a' w' h3=>⟨h3.2.1,ih (listed.setIfInBounds j true) a' w' (inv.set hj ai) hfree' (ready_mono hr (Ne.symm ae)) h3.1 ?_⟩) h2;rw[Array.setIfInBounds_comm _ _ ae];exact h3.2.2
inductive gJ where
 | done
 | fl (i:Nat) (p:gJ)
 | fp (i:Nat) (p:gJ)
 | one (i:Nat) (p:gJ)
 | st (i:Nat) (p:gJ)
 | two (i j:Nat) (p q:gJ)
 | tri (i j k:Nat) (p q r:gJ)
def fH(md:Region.Mode)(ops:Array Oper)(ST:List Nat)(g n:Nat):Nat→gJ→Array Bool→Bool
 | 0,.done,listed=>Region.seqB md ops g n listed
 | f+1,.fl i p,listed=>(Region.ready md ops listed).contains i&&Region.free md ops listed i&&((ops[i]?).map (Ir ·.op)).getD false&&decide (i < n)&&(ST.all fun s=>((ops[s]?).map (fun os=>os.after.any fun e=>Region.binds md e&&e.on==i)).getD true)&&fH md ops ST g n f p (listed.setIfInBounds i true)
 | f+1,.fp i p,listed=>(Region.ready md ops listed).contains i&&Region.free md ops listed i&&((ops[i]?).map (lV ·.op)).getD false&&decide (i < n)&&fH md ops ST g n f p (listed.setIfInBounds i true)
 | f+1,.one i p,listed=>(Region.ready md ops listed==[i])&&decide (i < n)&&fH md ops ST g n f p (listed.setIfInBounds i true)
 | f+1,.st i p,listed=>(Region.ready md ops listed==[i])&&decide (i < n)&&ST.contains i&&fH md ops ST g n f p (listed.setIfInBounds i true)
 | f+1,.two i j p q,listed=>(Region.ready md ops listed==[i,j])&&decide (i < n)&&decide (j < n)&&fH md ops ST g n f p (listed.setIfInBounds i true)&&fH md ops ST g n f q (listed.setIfInBounds j true)
 | f+1,.tri i j k p q r,listed=>(Region.ready md ops listed==[i,j,k])&&decide (i < n)&&decide (j < n)&&decide (k < n)&&fH md ops ST g n f p (listed.setIfInBounds i true)&&fH md ops ST g n f q (listed.setIfInBounds j true)&&fH md ops ST g n f r (listed.setIfInBounds k true)
 | _,_,_=>false
def bF(n0:Rl)(P:Program)(ops:Array Oper)(Q:Exit→Act→World→Prop)(n:Nat):gJ→Act→World→Prop
 | .done,a,w=>wpList P ops Q (ops.toList.drop n) a w
 | .fl i p,a,w=>qOp P ops (n0.r w) i (fun a'=>bF n0 P ops Q n p a' w) a
 | .fp i p,a,w=>qOp P ops (n0.r w) i (fun a'=>bF n0 P ops Q n p a' w) a
 | .one i p,a,w=>wpOp P ops Q i (fun a' w'=>n0.r w w'∧bF n0 P ops Q n p a' w') a w
 | .st i p,a,w=>wpOp P ops Q i (fun a' w'=>bF n0 P ops Q n p a' w') a w
 | .two i j p q,a,w=>wpOp P ops Q i (fun a' w'=>n0.r w w'∧bF n0 P ops Q n p a' w') a w∧wpOp P ops Q j (fun a' w'=>n0.r w w'∧bF n0 P ops Q n q a' w') a w
 | .tri i j k p q r,a,w=>wpOp P ops Q i (fun a' w'=>n0.r w w'∧bF n0 P ops Q n p a' w') a w∧wpOp P ops Q j (fun a' w'=>n0.r w w'∧bF n0 P ops Q n q a' w') a w∧wpOp P ops Q k (fun a' w'=>n0.r w w'∧bF n0 P ops Q n r a' w') a w
theorem dB{ST:List Nat}{g n:Nat}{Q:Exit→Act→World→Prop}(ae:Region.noSelect ops=true)(TW:JM md ops n)(hQ:∀(d:Option Tmp) v c a w,Q (.panic c) (a.put d v) w→Q (.panic c) a w):
 ∀(f:Nat) (s:gJ) (listed:Array Bool) (a:Act) (w:World),HeadInv md ops n listed→fH md ops ST g n f s listed=true→bF n0 P ops Q n s a w→
  Iq n0 P md ops Q ST n (fun listed' a' w'=>Region.seqB md ops g n listed'=true∧wpList P ops Q (ops.toList.drop n) a' w') f listed a w
 | 0,.done,listed,a,w,inv,hB,h=>⟨hB,h⟩
 | f+1,.fl i r,listed,a,w,inv,hB,h=>by
   simp only[fH,Bool.and_eq_true,decide_eq_true_eq]at hB;obtain⟨⟨⟨⟨⟨hr,hf⟩,ak⟩,af⟩,ax⟩,hB'⟩:=hB;have hr':i∈Region.ready md ops listed:=(by simpa using hr);obtain⟨_,oi,ah,_⟩:=mem_ready.1 hr';obtain⟨v,hy,hK⟩:=yieldsIn_of_qOp ah h;refine QX ah (Region.noSelect_spec ae) TW (fun s hs os ay=>?_) af (fun listed' a' w' hL=>seqB_ready hL.1) (fun c a w=>hQ _ _ c a w) _ listed a w inv (Region.free_spec ah hf) hr' (cZ.rW (by simpa[ah]using ak) hy) (dB ae TW hQ f r _ _ w (inv.set hr' af) hB' hK);have h1:=List.all_eq_true.1 ax s hs;rw[ay]at h1;simp only[Option.map_some,Option.getD_some,Array.any_eq_true',Bool.and_eq_true,beq_iff_eq]at h1;exact h1
 | f+1,.fp i r,listed,a,w,inv,hB,h=>by
   simp only[fH,Bool.and_eq_true,decide_eq_true_eq]at hB;obtain⟨⟨⟨⟨hr,hf⟩,ak⟩,af⟩,hB'⟩:=hB;have hr':i∈Region.ready md ops listed:=(by simpa using hr);obtain⟨_,oi,ah,_⟩:=mem_ready.1 hr';obtain⟨v,hy,hK⟩:=yieldsIn_of_qOp ah h;exact MR ah (Region.noSelect_spec ae) TW af (fun listed' a' w' hL=>seqB_ready hL.1) (fun c a w=>hQ _ _ c a w) _ listed a w inv (Region.free_spec ah hf) hr' (bT.rW (C:=n0.r w) (n0.refl w) (by simpa[ah]using ak) hy) (dB ae TW hQ f r _ _ w (inv.set hr' af) hB' hK)
 | f+1,.one i r,listed,a,w,inv,hB,h=>by
   simp only[fH,Bool.and_eq_true,beq_iff_eq,decide_eq_true_eq]at hB;obtain⟨⟨hr,af⟩,hB'⟩:=hB;refine⟨fun h0=>(by rw[h0]at hr;cases hr),fun j hj=>?_⟩;have ag:=hj;rw[hr]at hj;obtain rfl:j=i:=(by simpa using hj);exact⟨af,wpOp_mono (fun a' w' h'=>⟨fun _=>h'.1,dB ae TW hQ f r _ a' w' (inv.set ag af) hB' h'.2⟩) h⟩
 | f+1,.st i r,listed,a,w,inv,hB,h=>by
   simp only[fH,Bool.and_eq_true,beq_iff_eq,decide_eq_true_eq]at hB;obtain⟨⟨⟨hr,af⟩,hS⟩,hB'⟩:=hB;refine⟨fun h0=>(by rw[h0]at hr;cases hr),fun j hj=>?_⟩;have ag:=hj;rw[hr]at hj;obtain rfl:j=i:=(by simpa using hj);exact⟨af,wpOp_mono (fun a' w' h'=>⟨fun hc=>(by rw[hS]at hc;cases hc),dB ae TW hQ f r _ a' w' (inv.set ag af) hB' h'⟩) h⟩
 | f+1,.two i i' r r',listed,a,w,inv,hB,h=>by
   simp only[fH,Bool.and_eq_true,beq_iff_eq,decide_eq_true_eq]at hB;obtain⟨⟨⟨⟨hr,af⟩,hin'⟩,hB'⟩,au⟩:=hB;refine⟨fun h0=>(by rw[h0]at hr;cases hr),fun j hj=>?_⟩;have ag:=hj;rw[hr]at hj;have hj':j=i∨j=i':=(by simpa using hj);rcases hj' with rfl | rfl
   · exact⟨af,wpOp_mono (fun a' w' h'=>⟨fun _=>h'.1,dB ae TW hQ f r _ a' w' (inv.set ag af) hB' h'.2⟩) h.1⟩
   · exact⟨hin',wpOp_mono (fun a' w' h'=>⟨fun _=>h'.1,dB ae TW hQ f r' _ a' w' (inv.set ag hin') au h'.2⟩) h.2⟩
 | f+1,.tri i i2 i3 r r2 r3,listed,a,w,inv,hB,h=>by
   simp only[fH,Bool.and_eq_true,beq_iff_eq,decide_eq_true_eq]at hB;obtain⟨⟨⟨⟨⟨⟨hr,af⟩,ai⟩,aj⟩,az⟩,aA⟩,aB⟩:=hB;refine⟨fun h0=>(by rw[h0]at hr;cases hr),fun j hj=>?_⟩;have ag:=hj;rw[hr]at hj;have hj':j=i∨j=i2∨j=i3:=(by simpa using hj);rcases hj' with rfl | rfl | rfl
   · exact⟨af,wpOp_mono (fun a' w' h'=>⟨fun _=>h'.1,dB ae TW hQ f r _ a' w' (inv.set ag af) az h'.2⟩) h.1⟩
   · exact⟨ai,wpOp_mono (fun a' w' h'=>⟨fun _=>h'.1,dB ae TW hQ f r2 _ a' w' (inv.set ag ai) aA h'.2⟩) h.2.1⟩
   · exact⟨aj,wpOp_mono (fun a' w' h'=>⟨fun _=>h'.1,dB ae TW hQ f r3 _ a' w' (inv.set ag aj) aB h'.2⟩) h.2.2⟩
theorem Dn{n:Nat}(h:(decide (n=ops.size)||(decide (n < ops.size)&&Region.sinkB md ops n&&Region.chainB md ops n))=true):JM md ops n:=by
 simp only[Bool.or_eq_true,Bool.and_eq_true,decide_eq_true_eq]at h;rcases h with h | ⟨⟨hn,hs⟩,hc⟩
 · intro listed _ i _ _ t ht hr;obtain⟨_,ot,ae,_⟩:=mem_ready.1 hr;have :=(Yi.1 ae).1;omega
 · exact fun listed inv i af ag t ht=>tail_waits hs hc hn inv _ i rfl af ag t ht
theorem aA(n0:Rl){id:Nat}{Q:Exit→Act→World→Prop}{a:Act}{w:World}{l:List Oper}(n:Nat)(ST:List Nat)(s:gJ)(hm:P.follows .mixedOrders=true)
 (hB:(Region.noSelect l.toArray&&decide (n≤l.toArray.size)&&(decide (n=l.toArray.size)||(decide (n < l.toArray.size)&&Region.sinkB .any l.toArray n&&Region.chainB .any l.toArray n))&&fH .any l.toArray ST (l.toArray.size - n) n n s (Array.replicate l.toArray.size false))=true)
 (h:∀w',Below w.heap.size w w'→w'.heap.size=w.heap.size→bF n0 P l.toArray (calm Q) n s a w'):(Code.region id l.toArray true).wp P Q a w:=by
 rw[Bool.and_eq_true,Bool.and_eq_true,Bool.and_eq_true,decide_eq_true_eq]at hB;obtain⟨⟨⟨ae,hn⟩,hs⟩,hB⟩:=hB;refine Code.wp_mono (Q:=calm Q) (fun e a w h=>by cases e<;>first | exact h | exact h.elim) (wp_region_any hm ?_);have af:(l.drop n).length=l.toArray.size - n:=by simp
 have inv0:HeadInv .any l.toArray n (Array.replicate l.toArray.size false):=
  ⟨by simp,fun j oj _ hl=>(by rw[getD_replicate_false]at hl;cases hl),fun t _ ht=>getD_in (by simpa using ht) (getD_replicate_false _ _)⟩
 have H:=dB (P:=P) (Q:=calm Q) ae (Dn hs) (fun _ _ _ _ _ h=>h) n s _ a w.drew inv0 hB (h _ (Yb _ w).drew rfl)
 have :=mM (g:=l.toArray.size - n) (fun listed' a' w' hL=>by
  have :=wpAny_of_seq (ops:=l.toArray) (md:=.any) (Q':=calm Q) (l.drop n) n listed' a' w' (fun j=>by simp[List.getElem?_drop]) (by rw[af];exact hL.1) (by simpa using hL.2)
  rwa[af]at this) _ _ _ _ H
 rw[show n+(l.toArray.size - n)=l.toArray.size by omega]at this;exact this
def sU:List Nat→gJ→gJ
 | [],p=>p
 | i::is,p=>.fl i (sU is p)
def QT:List Nat→gJ→gJ
 | [],p=>p
 | i::is,p=>.fp i (QT is p)
theorem aj{n:Nat}{Q:Exit→Act→World→Prop}{w:World}{r:gJ}:∀(is:List Nat) (os:List Oper) {a:Act},is.mapM (ops[·]?)=some os→
 wpQuiet P ops (n0.r w) (fun a'=>bF n0 P ops Q n r a' w) os a→bF n0 P ops Q n (sU is r) a w
 | [],os,a,h,hq=>by
   simp only[List.mapM_nil,Option.pure_def,Option.some.injEq]at h;subst h;exact hq
 | i::is,os,a,h,hq=>by
   simp only[List.mapM_cons,Option.bind_eq_bind,Option.bind_eq_some_iff,Option.pure_def,Option.some.injEq]at h;obtain⟨o,ho,os',ae,rfl⟩:=h;show qOp P ops (n0.r w) i (fun a'=>bF n0 P ops Q n (sU is r) a' w) a;unfold qOp;simp only[ho];unfold wpQuiet at hq;split
   · rename_i hw;simp only[hw,if_true]at hq;exact Oper.quiet_mono (fun a' h'=>aj is os' ae h') hq
   · rename_i hw;simp only[hw]at hq;exact aj is os' ae hq
theorem aZ{n:Nat}{Q:Exit→Act→World→Prop}{w:World}{r:gJ}:∀(is:List Nat) (os:List Oper) {a:Act},is.mapM (ops[·]?)=some os→
 wpQuiet P ops (n0.r w) (fun a'=>bF n0 P ops Q n r a' w) os a→bF n0 P ops Q n (QT is r) a w
 | [],os,a,h,hq=>by
   simp only[List.mapM_nil,Option.pure_def,Option.some.injEq]at h;subst h;exact hq
 | i::is,os,a,h,hq=>by
   simp only[List.mapM_cons,Option.bind_eq_bind,Option.bind_eq_some_iff,Option.pure_def,Option.some.injEq]at h;obtain⟨o,ho,os',ae,rfl⟩:=h;show qOp P ops (n0.r w) i (fun a'=>bF n0 P ops Q n (QT is r) a' w) a;unfold qOp;simp only[ho];unfold wpQuiet at hq;split
   · rename_i hw;simp only[hw,if_true]at hq;exact Oper.quiet_mono (fun a' h'=>aZ is os' ae h') hq
   · rename_i hw;simp only[hw]at hq;exact aZ is os' ae hq
theorem jf{n:Nat}{Q:Exit→Act→World→Prop}{a:Act}{w:World}{r:gJ}(i:Nat){o:Oper}(ho:ops[i]? =some o)
 (h:∀K:Exit→Act→World→Prop,(∀a' w',n0.r w w'→bF n0 P ops Q n r a' w'→K .normal a' w')→wpList P ops K [o] a w):
 wpOp P ops Q i (fun a' w'=>n0.r w w'∧bF n0 P ops Q n r a' w') a w:=by
 have h1:=h (fun e a' w'=>match e with | .normal=>n0.r w w'∧bF n0 P ops Q n r a' w' | e=>Q e a' w') (fun a' w' hb hp=>⟨hb,hp⟩);unfold wpOp;simp only[ho];unfold wpList at h1;split
 · rename_i hw;simp only[hw,if_true]at h1;refine h1.imp (fun h2=>?_) (fun h2=>⟨h2.1,h2.2⟩)
   unfold Oper.wp at *
   generalize(execOp a.eval o).run P w=x at *
   cases x with
   | ok n w'=>
     cases n<;>simp only[Oper.upon]at h2 ⊢<;>
      first
       | exact h2
       | exact Calls.mono h2 (fun e w'' he=>by cases e<;>exact he)
       | exact Rows.mono h2 (fun _ _ he=>he)
   | halt x w'=>cases x<;>simp only[Oper.upon]at h2 ⊢<;>exact h2
 · rename_i hw;simp only[hw]at h1;exact h1
theorem OL{n:Nat}{Q:Exit→Act→World→Prop}{a:Act}{w:World}{r:gJ}(i:Nat){o:Oper}(ho:ops[i]? =some o)
 (h:∀K:Exit→Act→World→Prop,(∀a' w',bF n0 P ops Q n r a' w'→K .normal a' w')→wpList P ops K [o] a w):
 wpOp P ops Q i (fun a' w'=>bF n0 P ops Q n r a' w') a w:=by
 have h1:=h (fun e a' w'=>match e with | .normal=>bF n0 P ops Q n r a' w' | e=>Q e a' w') (fun a' w' hp=>hp);unfold wpOp;simp only[ho];unfold wpList at h1;split
 · rename_i hw;simp only[hw,if_true]at h1;refine h1.imp (fun h2=>?_) (fun h2=>⟨h2.1,h2.2⟩)
   unfold Oper.wp at *
   generalize(execOp a.eval o).run P w=x at *
   cases x with
   | ok n w'=>
     cases n<;>simp only[Oper.upon]at h2 ⊢<;>
      first
       | exact h2
       | exact Calls.mono h2 (fun e w'' he=>by cases e<;>exact he)
       | exact Rows.mono h2 (fun _ _ he=>he)
   | halt x w'=>cases x<;>simp only[Oper.upon]at h2 ⊢<;>exact h2
 · rename_i hw;simp only[hw]at h1;exact h1
theorem ae{n:Nat}{Q:Exit→Act→World→Prop}{a:Act}{w:World}{r:gJ}(i:Nat){o:Oper}(ho:ops[i]? =some o)
 (h:∀K:Exit→Act→World→Prop,(∀a' w',n0.r w w'→bF n0 P ops Q n r a' w'→K .normal a' w')→wpList P ops K [o] a w):bF n0 P ops Q n (.one i r) a w:=jf i ho h
theorem fK{n:Nat}{Q:Exit→Act→World→Prop}{a:Act}{w:World}{r r':gJ}(i j:Nat){o o':Oper}(ho:ops[i]? =some o)(ho':ops[j]? =some o')
 (h:∀K:Exit→Act→World→Prop,(∀a' w',n0.r w w'→bF n0 P ops Q n r a' w'→K .normal a' w')→wpList P ops K [o] a w)
 (h':∀K:Exit→Act→World→Prop,(∀a' w',n0.r w w'→bF n0 P ops Q n r' a' w'→K .normal a' w')→wpList P ops K [o'] a w):bF n0 P ops Q n (.two i j r r') a w:=⟨jf i ho h,jf j ho' h'⟩
theorem jb{n:Nat}{Q:Exit→Act→World→Prop}{a:Act}{w:World}{r:gJ}(i:Nat){o:Oper}(ho:ops[i]? =some o)
 (h:∀K:Exit→Act→World→Prop,(∀a' w',bF n0 P ops Q n r a' w'→K .normal a' w')→wpList P ops K [o] a w):bF n0 P ops Q n (.st i r) a w:=OL i ho h
theorem aF{n:Nat}{Q:Exit→Act→World→Prop}{a:Act}{w:World}{l:List Oper}(hl:ops.toList.drop n=l)
 (h:∀K:Exit→Act→World→Prop,(∀a' w',Q .normal a' w'→K .normal a' w')→wpList P ops K l a w):bF n0 P ops (calm Q) n .done a w:=by
 show wpList P ops (calm Q) (ops.toList.drop n) a w;rw[hl];exact h _ (fun _ _ h=>h)
end
end Tc
end Go.Proofs.YtfddbnmfllgifaaGreatDoor
