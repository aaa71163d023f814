/- Part of TopMembers. -/
import Derived.Test.YtfddbnmfllgifaaGreatDoorA41
set_option linter.unusedVariables false
set_option linter.unusedSimpArgs false
set_option maxHeartbeats 64000000
namespace Go.Proofs.YtfddbnmfllgifaaGreatDoor
open Go.RowKit
theorem Body.only {β:Type}{B:Nat}{J:β→World→Prop}{Fr:World→Nat→Prop}{s:β}{A C:World}(h:Body B J Fr)(hs:J s A){i:Nat}{o:Obj}(hl:B≤i)(ho:A.heap[i]? =some o)(hc:o.isCells=false)(ob:aG i A C):J s C∧∀k,Fr A k→Fr C k:=by
 have g:A.grownBy C (some i):=⟨ob.os,ob.tape,ob.output,ob.size,fun k hk ae=>ob.block k hk (fun e=>ae (by rw[e]))⟩;have r:kJ B A (some i):=fun r e=>(by cases e;exact⟨hl,o,ho,hc⟩);exact⟨h.own s A C _ hs g r,fun k hf=>h.grow s A C k _ hs hf g r⟩
theorem dQ{W:World}{b:Nat}{T:TypeId}{u u':Value}(h:ag W b T 1 (fun _=>u))(h':ag W b T 1 (fun _=>u')):u=u':=by
 have h1:=h.cell (i:=0) (by decide);have h2:=h'.cell (i:=0) (by decide);rw[h1]at h2;exact Yx h2
theorem fV{W W':World}{B b n:Nat}{T:TypeId}{f:Nat→Value}{row:Option Nat}(h:ag W b T n f)(g:W.grownBy W' row)(hr:kJ B W row):ag W' b T n f:=by
 refine(g.block b h.lt (fun e=>?_)).trans h;obtain⟨_,o,ho,hc⟩:=hr b e.symm;rw[show W.heap[b]? =_ from h]at ho;cases ho;cases hc
theorem wG{W:World}{base:Nat}{e:TypeId}{size:Nat}{v:Value}{k:Nat}{xs:List Value}(h:W.ownsRow base e size v k xs):∀(j:Nat) (o:Obj),v.ownBlock=some j→W.heap[j]? =some o→o.isCells=true:=by
 intro j o hj ho;rcases h.2 with⟨rfl,_⟩ | ⟨g,cap,cur,rfl,_,hgb,_⟩
 · simp[Value.ownBlock]at hj
 · have :g=j:=(by simpa[Value.ownBlock]using hj);subst this;rw[hgb]at ho;cases ho;rfl
section
variable {α:Type}{T Ts:TypeId}{s:Nat}{c:α→Nat→Value}
theorem ax.grow{W W':World}{B base:Nat}{v:Value}{l:List α}{row:Option Nat}(h:ax T s c W base v l)(g:W.grownBy W' row)(hr:kJ B W row):ax T s c W' base v l:=by
 refine World.ownsRow.kept h g ?_
 cases hv:v.ownBlock with
 | none=>exact .inl rfl
 | some k=>
   refine .inr fun e=>?_;obtain⟨_,o,ho,hc⟩:=hr k e.symm;rw[wG h k o hv ho]at hc;cases hc
theorem ay.grow{w W W':World}{B:Nat}{v u:Value}{row:Option Nat}(h:ay w v W u)(g:W.grownBy W' row)(hr:kJ B W row)(hB:w.heap.size≤B):ay w v W' u:=by
 obtain⟨h1,h2⟩:=h;refine⟨⟨g.os.trans h1.os,g.tape.trans h1.tape,g.output.trans h1.output,Yc h1.size g.size,fun k hk ae=>?_⟩,h2⟩;refine(g.block k (Yg hk h1.size) (fun e=>?_)).trans (h1.block k hk ae);have :=(hr k e.symm).1;omega
variable (T Ts s c)
def ApI(w:World)(base bx:Nat)(v:Value)(l:List α)(W:World):Prop:=∃u,ag W bx Ts 1 (fun _=>u)∧ax T s c W base u l∧ay w v W u
def ApF(bx:Nat)(W:World)(k:Nat):Prop:=k≠bx∧∀u,ag W bx Ts 1 (fun _=>u)→u.ownBlock≠some k
variable {T Ts s c}
theorem Kr{w:World}{B base bx:Nat}{v:Value}{l0:List α}(hB:w.heap.size≤B):Body B (fun pre W=>ApI T Ts s c w base bx v (l0++pre) W) (ApF Ts bx) where
 own:=fun pre A C row hs hg hr=>by
  obtain⟨u,h1,h2,h3⟩:=hs;exact⟨u,fV h1 hg hr,h2.grow hg hr,h3.grow hg hr hB⟩
 fresh:=fun pre A k hs hk=>by
  obtain⟨u,h1,h2,h3⟩:=hs;refine⟨fun e=>by have :=h1.lt;omega,fun u' hu e=>?_⟩;obtain rfl:=dQ h1 hu;have :=(h2.lt k e).2;omega
 grow:=fun pre A C k row hs hf hg hr=>by
  obtain⟨u,h1,h2,h3⟩:=hs;refine⟨hf.1,fun u' hu=>?_⟩;obtain rfl:=dQ (fV h1 hg hr) hu;exact hf.2 u h1
theorem BQ{w W W3:World}{base bx:Nat}{v u u':Value}{l l':List α}(hT:T≠Ts)(af:w.heap.size≤bx)(h1:ag W bx Ts 1 (fun _=>u))(h2:ax T s c W base u l)(h3:ay w v W u)(o:ax T s c W3 base u' l')(st:ay W u W3 u'):
 ApI T Ts s c w base bx v l' (W3.setCell ⟨bx,0,none⟩ u')∧Kf (ApF Ts bx) W (W3.setCell ⟨bx,0,none⟩ u'):=by
 have n1:u.ownBlock≠some bx:=fun e=>bM hT h2 h1 bx e rfl;have r3:ag W3 bx Ts 1 (fun _=>u):=st.row h1 n1;have ob:=(aG.refl bx W3).setCell (p:=⟨bx,0,none⟩) (.inl rfl) u';have r4:ag (W3.setCell ⟨bx,0,none⟩ u') bx Ts 1 (fun _=>u'):=(r3.set 0 u').congr (fun i hi=>by match i,hi with | 0,_=>rfl);have o4:ax T s c (W3.setCell ⟨bx,0,none⟩ u') base u' l':=o.aB r3 hT ob;have s3:=h3.trans st;refine⟨⟨u',r4,o4,⟨⟨ob.os.trans s3.1.os,ob.tape.trans s3.1.tape,ob.output.trans s3.1.output,Yc s3.1.size ob.size,fun k hk ae=>(ob.block k (Yg hk s3.1.size) (by omega)).trans (s3.1.block k hk ae)⟩,s3.2⟩⟩,Yc st.1.size ob.size,fun k hk hf=>⟨?_,hf.1,fun x hx e=>?_⟩⟩
 · exact(ob.block k (Yg hk st.1.size) hf.1).trans (st.block hk (hf.2 u h1))
 · obtain rfl:=dQ r4 hx;exact st.ne hk (hf.2 u h1) e
end
theorem Body.IZ{β:Type}{B:Nat}{J J':β→World→Prop}{Fr ae:World→Nat→Prop}(h:Body B J Fr)(h':Body B J' ae):Body B (fun s W=>J s W∧J' s W) (fun W k=>Fr W k∧ae W k) where
 own:=fun s A C row hs hg hr=>⟨h.own s A C row hs.1 hg hr,h'.own s A C row hs.2 hg hr⟩
 fresh:=fun s A k hs hk=>⟨h.fresh s A k hs.1 hk,h'.fresh s A k hs.2 hk⟩
 grow:=fun s A C k row hs hf hg hr=>⟨h.grow s A C k row hs.1 hf.1 hg hr,h'.grow s A C k row hs.2 hf.2 hg hr⟩
section
variable {α:Type}(T Ts:TypeId)(s:Nat)(c:α→Nat→Value)
def AqI(base bx:Nat)(l:List α)(W:World):Prop:=∃u,ag W bx Ts 1 (fun _=>u)∧ax T s c W base u l
variable {T Ts s c}
theorem uB{β:Type}{B base bx:Nat}{f:β→List α}:Body B (fun pre W=>AqI T Ts s c base bx (f pre) W) (ApF Ts bx) where
 own:=fun pre A C row hs hg hr=>by
  obtain⟨u,h1,h2⟩:=hs;exact⟨u,fV h1 hg hr,h2.grow hg hr⟩
 fresh:=fun pre A k hs hk=>by
  obtain⟨u,h1,h2⟩:=hs;refine⟨fun e=>by have :=h1.lt;omega,fun u' hu e=>?_⟩;obtain rfl:=dQ h1 hu;have :=(h2.lt k e).2;omega
 grow:=fun pre A C k row hs hf hg hr=>by
  obtain⟨u,h1,h2⟩:=hs;refine⟨hf.1,fun u' hu=>?_⟩;obtain rfl:=dQ (fV h1 hg hr) hu;exact hf.2 u h1
end
theorem GR{β:Type}{w:World}{B:Nat}(hB:w.heap.size≤B):Body (β:=β) B (fun _ W=>Below w.heap.size w W) (fun _ _=>True) where
 own:=fun pre A C row hs hg hr=>hs.grown hg hs.size (fun k e=>by have :=(hr k e).1;omega)
 fresh:=fun _ _ _ _ _=>trivial
 grow:=fun _ _ _ _ _ _ _ _ _=>trivial
section
variable {α β:Type}{T1 T2 Ts1 Ts2:TypeId}{s1 s2:Nat}{c1:α→Nat→Value}{c2:β→Nat→Value}
theorem aP{α:Type}{T T':TypeId}{s:Nat}{c:α→Nat→Value}{w:World}{b:Nat}{v:Value}{l:List α}{B n:Nat}{f:Nat→Value}(ae:T≠T')(h:ax T s c w b v l)(r:ag w B T' n f):v.ownBlock≠some B:=fun e=>bM ae h r B e rfl
theorem vK{w W W1 W2:World}{base b1 b2:Nat}{u1 u2 v1 v2:Value}{l1 m1:List α}{l2 m2:List β}(au:T1≠Ts1)(az:T1≠Ts2)(aA:T2≠Ts1)(aC:T2≠Ts2)(tt:T1≠T2)(hs:Ts1≠Ts2)
 (r1:ag W b1 Ts1 1 (fun _=>u1)) (r2:ag W b2 Ts2 1 (fun _=>u2)) (o1:ax T1 s1 c1 W base u1 l1) (o2:ax T2 s2 c2 W base u2 l2)
 (ae:ay W u1 W1 v1) (p1:ax T1 s1 c1 W1 base v1 m1) (af:ay W1 u2 W2 v2) (p2:ax T2 s2 c2 W2 base v2 m2) (hw:Below w.heap.size w W) (hb:w.heap.size≤base) (h1:w.heap.size≤b1) (h2:w.heap.size≤b2):
 AqI T1 Ts1 s1 c1 base b1 m1 ((W2.setCell ⟨b1,0,none⟩ v1).setCell ⟨b2,0,none⟩ v2)∧AqI T2 Ts2 s2 c2 base b2 m2 ((W2.setCell ⟨b1,0,none⟩ v1).setCell ⟨b2,0,none⟩ v2)∧
 Below w.heap.size w ((W2.setCell ⟨b1,0,none⟩ v1).setCell ⟨b2,0,none⟩ v2)∧Kf (fun W k=>ApF Ts1 b1 W k∧ApF Ts2 b2 W k) W ((W2.setCell ⟨b1,0,none⟩ v1).setCell ⟨b2,0,none⟩ v2):=by
 have aF:b1≠b2:=fun e=>by
  subst e;have h:=(show W.heap[b1]? =_ from r1).symm.trans r2;injection h with h;injection h with _ h _;exact hs h
 have q2:ax T2 s2 c2 W1 base u2 l2:=o2.beside o1 (Ne.symm tt) ae;have aH:ag W1 b1 Ts1 1 (fun _=>u1):=ae.row r1 (aP au o1 r1);have aI:ag W1 b2 Ts2 1 (fun _=>u2):=ae.row r2 (aP az o1 r2);have aj:ag W2 b1 Ts1 1 (fun _=>u1):=af.row aH (aP aA q2 aH);have aS:ag W2 b2 Ts2 1 (fun _=>u2):=af.row aI (aP aC q2 aI);have aT:ax T1 s1 c1 W2 base v1 m1:=p1.beside q2 tt af;have ah:=(aG.refl b1 W2).setCell (p:=⟨b1,0,none⟩) (.inl rfl) v1;have aU:ag (W2.setCell ⟨b1,0,none⟩ v1) b1 Ts1 1 (fun _=>v1):=(aj.set 0 v1).congr (fun i hi=>by match i,hi with | 0,_=>rfl);have ak:ag (W2.setCell ⟨b1,0,none⟩ v1) b2 Ts2 1 (fun _=>u2):=ah.row aF.symm aS;have aV:ax T1 s1 c1 (W2.setCell ⟨b1,0,none⟩ v1) base v1 m1:=aT.aB aj au ah;have aW:ax T2 s2 c2 (W2.setCell ⟨b1,0,none⟩ v1) base v2 m2:=p2.aB aj aA ah;have ai:=(aG.refl b2 (W2.setCell ⟨b1,0,none⟩ v1)).setCell (p:=⟨b2,0,none⟩) (.inl rfl) v2;have aJ:=ai.row aF aU
 have aK:ag ((W2.setCell ⟨b1,0,none⟩ v1).setCell ⟨b2,0,none⟩ v2) b2 Ts2 1 (fun _=>v2):=(ak.set 0 v2).congr (fun i hi=>by match i,hi with | 0,_=>rfl);have aX:=aV.aB ak az ai;have aY:=aW.aB ak aC ai;have bl:Below w.heap.size w W1:=hw.trans (aO ae hw.size (fun k hk=>Yc hb (o1.lt k hk).1));have aN:Below w.heap.size w W2:=bl.trans (aO af bl.size (fun k hk=>Yc hb (q2.lt k hk).1));have aQ:=aN.trans (ah.below h1 aN.size);have aZ:=aQ.trans (ai.below h2 aQ.size);refine⟨⟨v1,aJ,aX⟩,⟨v2,aK,aY⟩,aZ,Yc ae.1.size (Yc af.1.size (Yc ah.size ai.size)),fun k hk hf=>?_⟩;have k1:k < W1.heap.size:=Yg hk ae.1.size;have k2:k < W2.heap.size:=Yg k1 af.1.size;have e1:=ae.block hk (hf.1.2 u1 r1);have e2:=af.block k1 (hf.2.2 u2 r2);have e3:=ah.block k k2 hf.1.1;have e4:=ai.block k (Yg k2 ah.size) hf.2.1;refine⟨e4.trans (e3.trans (e2.trans e1)),⟨hf.1.1,fun x hx e=>?_⟩,hf.2.1,fun x hx e=>?_⟩
 · obtain rfl:=dQ aJ hx;exact ae.ne hk (hf.1.2 u1 r1) e
 · obtain rfl:=dQ aK hx;exact af.ne k1 (hf.2.2 u2 r2) e
end
end Go.Proofs.YtfddbnmfllgifaaGreatDoor
