/- Part of TopMembers. -/
import Derived.Test.YtfddbnmfllgifaaGreatDoorA35
import Derived.Test.YtfddbnmfllgifaaGreatDoorA23
import Derived.Deep.Slices
set_option linter.unusedVariables false
set_option linter.unusedSimpArgs false
set_option maxHeartbeats 64000000
namespace Go.Proofs.YtfddbnmfllgifaaGreatDoor
open Go.ChangeShapes Go.WideShapes Go.ChangeAt Go.RowKit Cod Top
structure Hd where
 a:Option Addr
 n:Nat
 k:Nat
abbrev Hd.v(h:Hd):Value:=.slice h.a h.n h.k
def SlW(s:Nat)(w:World)(v:Value)(n:Nat)(c:Nat→Nat→Value):Prop:=
 ((∃(a:Option Addr) (k:Nat),v=.slice a 0 k∧(a=none→k=0))∧n=0)∨
 ∃b off cap:Nat,v=.slice (some ⟨b,off,none⟩) n cap∧n≤cap∧0 < n∧(cap:Int)≤9223372036854775807∧b < w.heap.size∧∀i,i < n→∀j,j < s→w.cell? ⟨b,off+s*i+j,none⟩=some (c i j)
section
variable {s:Nat}{w w':World}{v:Value}{n:Nat}{c c':Nat→Nat→Value}
theorem SlW.at (h:SlW s w v n c)(hn:n≤1000):aN s w v n c:=by
 rcases h with h | ⟨b,off,cap,h1,h2,h3,h4,h5,h6⟩
 · exact .inl h
 · exact .inr ⟨b,off,cap,h1,h2,h3,⟨by omega,h4⟩,h5,h6⟩
theorem SlW.below(h:SlW s w v n c)(hb:Below w.heap.size w w'):SlW s w' v n c:=by
 rcases h with h | ⟨b,off,cap,h1,h2,h3,h4,h5,h6⟩
 · exact .inl h
 · exact .inr ⟨b,off,cap,h1,h2,h3,h4,Yg h5 hb.size,fun i hi j hj=>(hb.cell (p:=⟨b,off+s*i+j,none⟩) h5).trans (h6 i hi j hj)⟩
theorem SlW.slice(h:SlW s w v n c):∃(a:Option Addr) (k:Nat),v=.slice a n k:=by
 rcases h with⟨⟨a,k,rfl,_⟩,rfl⟩ | ⟨b,off,cap,rfl,_⟩
 · exact⟨a,k,rfl⟩
 · exact⟨_,_,rfl⟩
theorem SlW.lQ(h:SlW s w v n c):(n:Int)≤9223372036854775807:=by
 rcases h with⟨_,rfl⟩ | ⟨_,_,cap,_,h2,_,h4,_⟩
 · decide
 · omega
theorem SlW.congr(h:SlW s w v n c)(he:∀i,i < n→∀j,j < s→c i j=c' i j):SlW s w v n c':=by
 rcases h with h | ⟨b,off,cap,h1,h2,h3,h4,h5,h6⟩
 · exact .inl h
 · exact .inr ⟨b,off,cap,h1,h2,h3,h4,h5,fun i hi j hj=>by rw[h6 i hi j hj,he i hi j hj]⟩
theorem SlW.aI{a:Option Addr}{k:Nat}(h:SlW s w (.slice a n k) n c){i:Nat}(hi:i < n):∃b off,a=some ⟨b,off,none⟩∧n≤k∧b < w.heap.size∧∀i,i < n→∀j,j < s→w.cell? ⟨b,off+s*i+j,none⟩=some (c i j):=by
 rcases h with⟨_,rfl⟩ | ⟨b,off,cap,h1,h2,h3,h4,h5,h6⟩
 · exact absurd hi (by omega)
 · cases h1;exact⟨b,off,rfl,h2,h5,h6⟩
end
def dgC(d:List UInt8)(j:Nat):Value:=vB (d.getD j 0)
def ch0:Chg:=⟨0,0,0,0,0⟩
def chC(c:Chg)(j:Nat):Value:=.int .i64 (match j with | 0=>c.k | 1=>c.d | 2=>c.p | 3=>c.v | _=>c.c)
structure ChW(c:Chg):Prop where
 k:bQ c.k
 d:bQ c.d
 p:bQ c.p
 v:bQ c.v
 c:bQ c.c
def bx0:Bx:=⟨0,0,0,[]⟩
def bxC(b:Bx)(h:Hd)(j:Nat):Value:=match j with | 0=>.int .i64 b.n | 1=>.int .i64 b.l | 2=>.int .i64 b.u | _=>h.v
structure BxW(b:Bx):Prop where
 n:bQ b.n
 l:bQ b.l
 u:bQ b.u
def wl0:Wl:=⟨0,0,[]⟩
def wlC(b:Wl)(h:Hd)(j:Nat):Value:=match j with | 0=>.int .i64 b.d | 1=>.int .i64 b.u | _=>h.v
structure WlW(b:Wl):Prop where
 d:bQ b.d
 u:bQ b.u
def dA:Dg:=List.replicate 32 0
def cm0:Cm:=⟨0,0,dA,0,[],[],[],[],dA,0,0⟩
structure CmV where
 ch:Hd
 pt:Hd
 bx:Hd
 wl:Hd
def hd0:Hd:=⟨none,0,0⟩
def cv0:CmV:=⟨hd0,hd0,hd0,hd0⟩
def cmC(c:Cm)(v:CmV)(j:Nat):Value:=
 if j=0 then .int .i64 c.f else if j=1 then .int .i64 c.e else if j < 34 then dgC c.par (j - 2)else if j=34 then .int .i64 c.au else
 if j=35 then v.ch.v else if j=36 then v.pt.v else if j=37 then v.bx.v else if j=38 then v.wl.v else if j < 71 then dgC c.cnf (j - 39)else if j=71 then .int .i64 c.r else .int .i64 c.g
theorem dh{p:Prop}[Decidable p]{a b:Value}(ha:a.oneCell'=true)(hb:b.oneCell'=true):(if p then a else b).oneCell'=true:=by split<;>assumption
theorem nZ(c:Cm)(v:CmV)(j:Nat):(cmC c v j).oneCell'=true:=
 dh rfl (dh rfl (dh rfl (dh rfl (dh rfl (dh rfl (dh rfl (dh rfl (dh rfl (dh rfl rfl)))))))))
structure CmI(c:Cm):Prop where
 f:bQ c.f
 e:bQ c.e
 au:bQ c.au
 r:bQ c.r
 g:bQ c.g
 par:c.par.length=32
 cnf:c.cnf.length=32
 chs:∀x∈c.chs,ChW x
 pth:∀y∈c.pth,bQ y
 bxs:∀x∈c.bxs,BxW x
 wls:∀x∈c.wls,WlW x
def CmG(S:Nat→World→Value→Nat→(Nat→Nat→Value)→Prop)(w:World)(c:Cm)(v:CmV):Prop:=
 S 5 w v.ch.v c.chs.length (fun i=>chC (c.chs.getD i ch0))∧S 1 w v.pt.v c.pth.length (fun i _=>.int .i64 (c.pth.getD i 0))∧
 (∃us:Nat→Hd,S 4 w v.bx.v c.bxs.length (fun i=>bxC (c.bxs.getD i bx0) (us i))∧∀i,i < c.bxs.length→S 1 w (us i).v (c.bxs.getD i bx0).b.length (fun j _=>vB ((c.bxs.getD i bx0).b.getD j 0)))∧
 ∃us:Nat→Hd,S 3 w v.wl.v c.wls.length (fun i=>wlC (c.wls.getD i wl0) (us i))∧∀i,i < c.wls.length→S 1 w (us i).v (c.wls.getD i wl0).b.length (fun j _=>vB ((c.wls.getD i wl0).b.getD j 0))
abbrev CmW:=CmG SlW
abbrev kM:=CmG aN
theorem CmG.mono{S S':Nat→World→Value→Nat→(Nat→Nat→Value)→Prop}{w w':World}{c:Cm}{v:CmV}(h:CmG S w c v)(k:∀s v n c,S s w v n c→S' s w' v n c):CmG S' w' c v:=by
 obtain⟨h1,h2,⟨us,h3,h4⟩,ae,h5,h6⟩:=h;exact⟨k _ _ _ _ h1,k _ _ _ _ h2,⟨us,k _ _ _ _ h3,fun i hi=>k _ _ _ _ (h4 i hi)⟩,ae,k _ _ _ _ h5,fun i hi=>k _ _ _ _ (h6 i hi)⟩
theorem kM.below{w w':World}{c:Cm}{v:CmV}(h:kM w c v)(hb:Below w.heap.size w w'):kM w' c v:=CmG.mono h fun _ _ _ _ g=>g.below hb
theorem CmW.below{w w':World}{c:Cm}{v:CmV}(h:CmW w c v)(hb:Below w.heap.size w w'):CmW w' c v:=CmG.mono h fun _ _ _ _ g=>g.below hb
def lT(c:Cm):Prop:=c.chs.length≤10∧c.pth.length≤12∧c.bxs.length≤40∧c.wls.length≤10∧(∀b∈c.bxs,b.b.length≤200)∧∀b∈c.wls,b.b.length≤200
theorem aK{α:Type}{l:List α}{d:α}{i:Nat}(h:i < l.length):l.getD i d∈l:=by rw[Yd,Yh h];exact List.getElem_mem h
theorem CmW.few{w:World}{c:Cm}{v:CmV}(h:CmW w c v)(f:lT c):kM w c v:=by
 obtain⟨h1,h2,⟨us,h3,h4⟩,ae,h5,h6⟩:=h;obtain⟨f1,f2,f3,f4,f5,f6⟩:=f;exact⟨h1.at (by omega),h2.at (by omega),⟨us,h3.at (by omega),fun i hi=>(h4 i hi).at (by have :=f5 _ (aK (d:=bx0) hi);omega)⟩,ae,h5.at (by omega),fun i hi=>(h6 i hi).at (by have :=f6 _ (aK (d:=wl0) hi);omega)⟩
end Go.Proofs.YtfddbnmfllgifaaGreatDoor
