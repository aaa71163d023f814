/- Part of TopMembers. -/
set_option linter.unusedVariables false
set_option linter.unusedSimpArgs false
set_option maxHeartbeats 64000000
namespace Go.Proofs.YtfddbnmfllgifaaGreatDoor
universe u
theorem zt{p:Prop}[inst:Decidable p](h:p):decide p=true:=decide_eq_true h
theorem zT{p:Prop}[inst:Decidable p](h:¬p):decide p=false:=decide_eq_false h
theorem zg{α:Sort u}(a:α):∃y,a=y:=⟨_,rfl⟩
theorem zG{α:Sort u}(a:α):∃y,y=a:=⟨_,rfl⟩
theorem zl{k n:Nat}(h:k < n):decide ((k:Int) < (n:Int))=true∧decide (k < n)=true∧(k:Int) < (n:Int)∧k < n:=⟨decide_eq_true (by omega),decide_eq_true h,by omega,h⟩
theorem zk{k n:Nat}(h:¬k < n):decide ((k:Int) < (n:Int))=false∧decide (k < n)=false:=⟨decide_eq_false (by omega),decide_eq_false h⟩
theorem zx{α:Type}{xs:List α}{i:Nat}(h:i < xs.toArray.size):getElem xs.toArray i h=getElem xs i (by simpa using h):=rfl
theorem zy{α:Type}{a:α}{as:List α}{i:Nat}(h:i+1 < (a::as).length):getElem (a::as) (i+1) h=getElem as i (Nat.lt_of_succ_lt_succ h):=rfl
theorem zz{α:Type}{a:α}{as:List α}(h:0 < (a::as).length):getElem (a::as) 0 h=a:=rfl
abbrev Ya:=@Nat.le_refl
abbrev Yc:=@Nat.le_trans
abbrev Yd:=@List.getD_eq_getElem?_getD
abbrev Ye:=@Int.natCast_nonneg
abbrev Yf:=@List.length_append
abbrev Yg:=@Nat.lt_of_lt_of_le
abbrev Yh:=@List.getElem?_eq_getElem
abbrev Yi:=@Array.getElem?_eq_some_iff
abbrev Yj:=@List.length_singleton
abbrev Yk:=@List.length_map
abbrev Yl:=@Nat.zero_add
abbrev Ym:=@Nat.mul_comm
abbrev Yn:=@List.map_append
abbrev Yo:=@List.mem_map
abbrev Yp:=@List.mem_singleton
abbrev Yq:=@List.take_of_length_le
abbrev Yr:=@List.length_cons
abbrev Ys:=@List.getElem?_eq_some_iff
abbrev Yt:=@List.mem_append
abbrev Yu:=@List.length_take
abbrev Yv:=@Nat.le_of_lt
abbrev Yw:=@List.map_cons
abbrev Yx:=@Option.some.inj
abbrev Yy:=@List.getElem?_take_of_lt
abbrev Yz:=@List.eq_nil_of_length_eq_zero
abbrev Xa:=@List.append_assoc
abbrev Xb:=@List.getElem?_append_right
abbrev Xc:=@List.length_nil
abbrev Xd:=@List.getElem?_append_left
abbrev Xe:=@List.take_succ_cons
abbrev Xf:=@List.drop_succ_cons
abbrev Xg:=@List.getElem?_map
abbrev Xh:=@List.getElem?_range
end Go.Proofs.YtfddbnmfllgifaaGreatDoor
namespace Go.Proofs.YtfddbnmfllgifaaGreatDoor
namespace Top
abbrev Dg:=List UInt8
structure Chg where
 k:Int
 d:Int
 p:Int
 v:Int
 c:Int
structure Bx where
 n:Int
 l:Int
 u:Int
 b:List UInt8
structure Wl where
 d:Int
 u:Int
 b:List UInt8
structure Cm where
 f:Int
 e:Int
 par:Dg
 au:Int
 chs:List Chg
 pth:List Int
 bxs:List Bx
 wls:List Wl
 cnf:Dg
 r:Int
 g:Int
abbrev Tr:=List (Int×Int)
structure Me where
 d:Int
 s:Int
 v:Int
structure Gp where
 f:Int
 e:Int
 last:Dg
 mem:List Me
 tr:Tr
inductive Sec where
 | key (y:Int)
 | path (d:Dg) (l:Int)
 | epoch (d:Dg)
def look(t:Tr)(n:Int):Option Int:=(t.find? fun x=>decide (x.1=n)).map (·.2)
def anc(d:Int)(k:Nat):Int:=(512+d) / 2^k
def fM(d:Int):Prop:=0≤d∧d < 512
theorem iw(d:Int):anc d 0=512+d:=by unfold anc;simp
theorem mF(d:Int)(k:Nat):anc d (k+1)=anc d k / 2:=by
 unfold anc;rw[Int.pow_succ,Int.ediv_ediv_of_nonneg (Int.le_of_lt (Int.pow_pos (by decide)))]
theorem Eg{d e:Int}{k:Nat}(h:anc d k=anc e k):anc d (k+1)=anc e (k+1):=by rw[mF,mF,h]
theorem wB{d:Int}(h:fM d):∀k,k≤9→2^(9 - k)≤anc d k∧anc d k < 2*2^(9 - k)
 | 0,_=>by rw[iw];unfold fM at h;simp;omega
 | k+1,hk=>by
   have ih:=wB h k (by omega);rw[mF];obtain⟨m,hm⟩:∃m,9 - k=m+1:=⟨9 - k - 1,by omega⟩;rw[hm]at ih;rw[show 9 - (k+1)=m by omega];rw[Int.pow_succ]at ih;omega
theorem Bd{a b:Nat}(h:a≤b):(2:Int)^a≤2^b:=by
 obtain⟨c,rfl⟩:∃c,b=a+c:=⟨b - a,by omega⟩;rw[Int.pow_add];have h1:(0:Int) < 2^a:=Int.pow_pos (by decide);have h2:(0:Int) < 2^c:=Int.pow_pos (by decide);have :=Int.mul_le_mul_of_nonneg_left (show(1:Int)≤2^c by omega) (Int.le_of_lt h1);omega
theorem iQ{d e:Int}(hd:fM d)(he:fM e){j k:Nat}(hj:j≤9)(hk:k≤9)(h:anc d j=anc e k):j=k:=by
 have h1:=wB hd j hj;have h2:=wB he k hk;rcases Nat.lt_trichotomy j k with hl | hl | hl
 · have :=Bd (show(9 - k)+1≤9 - j by omega);rw[Int.pow_succ]at this;omega
 · exact hl
 · have :=Bd (show(9 - j)+1≤9 - k by omega);rw[Int.pow_succ]at this;omega
theorem XF{d:Int}(h:fM d)(k:Nat)(hk:10≤k):anc d k=0:=by
 unfold anc fM at *
 have :=Bd hk
 exact Int.ediv_eq_zero_of_lt (by omega) (by have e:(2:Int)^10=1024:=by decide
                                             omega)
theorem JI{d:Int}(h:fM d){k:Nat}(hk:k≤9):0 < anc d k:=by
 have h1:=(wB h k hk).1;have h2:(0:Int) < 2^(9 - k):=Int.pow_pos (by decide);omega
theorem WG(d:Int)(k q:Nat):anc d k / 2^q=anc d (k+q):=by
 unfold anc;rw[Int.pow_add,Int.ediv_ediv_of_nonneg (Int.le_of_lt (Int.pow_pos (by decide)))]
theorem qM{d e:Int}(h:anc d 0=anc e 0):d=e:=by rw[iw,iw]at h;omega
def inT(t:Tr)(d:Int):Prop:=∃y,look t (anc d 0)=some y
def Chd(c:Chg)(t t':Tr):Prop:=
 (∀n,look t' n=none)∨(fM c.d∧look t' (anc c.d 0)=(if c.k=2 then none else some c.p)∧(∀k,1≤k→k≤9→look t' (anc c.d k)=none)∧∀n,(∀k,k≤9→n≠anc c.d k)→look t' n=look t n)
inductive Chs:Tr→List Chg→Tr→Prop
 | nil (t:Tr):Chs t [] t
 | snoc {t t1 t2:Tr} {l:List Chg} {c:Chg} (h:Chs t l t1) (hc:Chd c t1 t2):Chs t (l++[c]) t2
theorem chs_in{t t':Tr}{l:List Chg}(h:Chs t l t')(d:Int)(hd:fM d)(hi:inT t' d):(∃c∈l,c.d=d∧c.k≠2)∨(inT t d∧∀c∈l,c.d≠d):=by
 induction h with
 | nil=>exact .inr ⟨hi,fun c hc=>by cases hc⟩
 | @snoc t1 t2 l c h hc ih=>
   obtain⟨y,hy⟩:=hi;rcases hc with h0 | ⟨hcd,h1,h2,h3⟩
   · rw[h0]at hy;cases hy
   · by_cases e:d=c.d
     · subst e;rw[h1]at hy;by_cases hk:c.k=2
       · rw[if_pos hk]at hy;cases hy
       · exact .inl ⟨c,by simp,rfl,hk⟩
     · have hn:∀k,k≤9→anc d 0≠anc c.d k:=fun k hk he=>by
        have :=iQ hd hcd (by omega) hk he;subst this;exact e (qM he)
       rw[h3 _ hn]at hy;rcases ih ⟨y,hy⟩with⟨c',h4,h5⟩ | ⟨h4,h5⟩
       · exact .inl ⟨c',by simp[h4],h5⟩
       · refine .inr ⟨h4,fun c' hc'=>?_⟩;rcases Yt.1 hc' with h6 | h6
         · exact h5 c' h6
         · obtain rfl:=Yp.1 h6;exact fun q=>e q.symm
section
variable (cs:List Cm)(ident:Cm→Dg)(own:Int→Prop)(dev:Int)(nx:Tr→Cm→Tr)(z32:Dg)
structure uQ(g:Gp)(c:Cm)(t:Tr)(x:Gp):Prop where
 ep:c.e=g.e+1
 pa:c.par=g.last
 xe:x.e=c.e
 xl:x.last=ident c
 au:fM c.au
 len:c.pth.length=10
 bx:∀b∈c.bxs,∃i q:Nat,i < 9∧b.l=(i:Int)+1∧b.n / 2^(q+1)=anc c.au (i+1)
 ch:Chs g.tr c.chs t
 ai:inT t c.au
 x1:∀k,k≤9→look x.tr (anc c.au k)=c.pth[k]?
 x2:∀n,(∀k,k≤9→n≠anc c.au k)→look x.tr n=look t n
 mem:∀d,(d∈g.mem.map (·.d)∧∀ch∈c.chs,ch.d≠d)∨(∃ch∈c.chs,ch.d=d∧ch.k≠2)→d∈x.mem.map (·.d)
 det:x.tr=nx g.tr c
def g0(f:Int):Gp:=⟨f,0,z32,[],[]⟩
inductive Plc:Gp→Cm→Tr→Gp→Prop
 | first {c:Cm} {t:Tr} {x:Gp} (hc:c∈cs) (h:uQ ident nx (g0 z32 c.f) c t x):Plc (g0 z32 c.f) c t x
 | step {b0 b x:Gp} {c0 c:Cm} {t0 t:Tr} (hb:Plc b0 c0 t0 b) (hc:c∈cs) (h:uQ ident nx b c t x):Plc b c t x
def PH(y d:Int):Prop:=(∃c∈cs,∃ch∈c.chs,ch.k≠2∧ch.p=y∧ch.d=d)∨(d=dev∧own y)
structure Apart:Prop where
 id:∀c∈cs,∀c'∈cs,ident c=ident c'→c=c'
 pp:∀c∈cs,∀c'∈cs,∀(k k':Nat) (y:Int),c.pth[k]? =some y→c'.pth[k']? =some y→c=c'∧k=k'
 ll:∀(y d d':Int),PH cs own dev y d→PH cs own dev y d'→d=d'
 pl:∀c∈cs,∀(k:Nat) (y d:Int),c.pth[k]? =some y→¬PH cs own dev y d
inductive Kn:Sec→Prop
 | own {y:Int} (h:own y):Kn (.key y)
 | auth {g x:Gp} {c:Cm} {t:Tr} (p:Plc cs ident nx z32 g c t x) (h:c.au=dev):Kn (.path x.last 0)
 | box {g x:Gp} {c:Cm} {t:Tr} (p:Plc cs ident nx z32 g c t x) {b:Bx} {y:Int} (hb:b∈c.bxs) (hy:look t b.n=some y) (h:Kn (.key y)):Kn (.path x.last b.l)
 | pkey {g x:Gp} {c:Cm} {t:Tr} (p:Plc cs ident nx z32 g c t x) {k:Nat} {y:Int} (hy:c.pth[k]? =some y) (h:Kn (.path x.last (k:Int))):Kn (.key y)
 | up {g x:Gp} {c:Cm} {t:Tr} (p:Plc cs ident nx z32 g c t x) {k:Nat} (hk:k < 9) (h:Kn (.path x.last (k:Int))):Kn (.path x.last ((k:Int)+1))
 | ep {g x:Gp} {c:Cm} {t:Tr} (p:Plc cs ident nx z32 g c t x) (h:Kn (.path x.last 9)):Kn (.epoch x.last)
 | wel {g x:Gp} {c:Cm} {t:Tr} (p:Plc cs ident nx z32 g c t x) {n y:Int} (hn:n=0∨∃d,fM d∧n=anc d 0) (hy:look t n=some y) (h:Kn (.key y)):Kn (.epoch x.last)
variable {cs ident own dev nx z32}
theorem Plc.ok{g x:Gp}{c:Cm}{t:Tr}(p:Plc cs ident nx z32 g c t x):c∈cs∧uQ ident nx g c t x:=by
 cases p with
 | first hc h=>exact⟨hc,h⟩
 | step hb hc h=>exact⟨hc,h⟩
theorem Plc.epos{g x:Gp}{c:Cm}{t:Tr}(p:Plc cs ident nx z32 g c t x):0≤g.e∧1≤x.e:=by
 induction p with
 | first hc h=>have h1:=h.ep;have h2:=h.xe;exact⟨Int.le_refl 0,by rw[h2,h1];show 1≤(0:Int)+1;decide⟩
 | step hb hc h ih=>have h1:=h.ep;have h2:=h.xe;have h3:=ih.2;constructor <;>omega
theorem Plc.uniq(A:Apart cs ident own dev){g x:Gp}{c:Cm}{t:Tr}(p:Plc cs ident nx z32 g c t x):∀{g' x':Gp} {c':Cm} {t':Tr},Plc cs ident nx z32 g' c' t' x'→x.last=x'.last→c=c'∧x.tr=x'.tr:=by
 induction p with
 | @first c t x hc h=>
   intro g' x' c' t' p' e;obtain⟨hc',h'⟩:=p'.ok;obtain rfl:c=c':=A.id c hc c' hc' (by rw[←h.xl,←h'.xl,e])
   cases p' with
   | first _ _=>exact⟨rfl,by rw[h.det,h'.det]⟩
   | step hb _ h2=>
     exfalso;have h3:=hb.epos.2;have h4:=h2.ep;have h5:=h.ep;have h6:(g0 z32 c.f).e=0:=rfl;omega
 | @step b0 b x c0 c t0 t hb hc h ih=>
   intro g' x' c' t' p' e;obtain⟨hc',h'⟩:=p'.ok;obtain rfl:c=c':=A.id c hc c' hc' (by rw[←h.xl,←h'.xl,e])
   cases p' with
   | first _ h2=>
     exfalso;have h3:=hb.epos.2;have h4:=h2.ep;have h5:=h.ep;have h6:(g0 z32 c.f).e=0:=rfl;omega
   | step hb' _ h2=>
     have e2:=(ih hb' (by rw[←h.pa,←h2.pa])).2;exact⟨rfl,by rw[h.det,h2.det,e2]⟩
def mr(cs:List Cm)(ident:Cm→Dg)(own:Int→Prop)(dev:Int)(nx:Tr→Cm→Tr)(z32:Dg)(t:Tr):Prop:=
 ∀n y,look t n=some y→(∃d,fM d∧n=anc d 0∧PH cs own dev y d)∨
  ∃(g x:Gp) (c:Cm) (t0:Tr) (k:Nat),Plc cs ident nx z32 g c t0 x∧k≤9∧c.pth[k]? =some y∧n=anc c.au k∧∀e,fM e→n=anc e k→inT x.tr e→inT t e
theorem mr.change {t t':Tr}{ch:Chg}{c:Cm}(h:mr cs ident own dev nx z32 t)(hc:c∈cs)(ag:ch∈c.chs)(hd:Chd ch t t'):mr cs ident own dev nx z32 t':=by
 intro n y hy;rcases hd with h0 | ⟨hcd,h1,h2,h3⟩
 · rw[h0]at hy;cases hy
 · by_cases hk:∃k,k≤9∧n=anc ch.d k
   · obtain⟨k,hk,rfl⟩:=hk;rcases Nat.eq_zero_or_pos k with rfl | hp
     · rw[h1]at hy;by_cases h4:ch.k=2
       · rw[if_pos h4]at hy;cases hy
       · rw[if_neg h4]at hy;exact .inl ⟨ch.d,hcd,rfl,.inl ⟨c,hc,ch,ag,h4,Yx hy,rfl⟩⟩
     · rw[h2 k hp hk]at hy;cases hy
   · have hn:∀k,k≤9→n≠anc ch.d k:=fun k h4 h5=>hk ⟨k,h4,h5⟩;rw[h3 n hn]at hy;rcases h n y hy with⟨d,h4,h5,h6⟩ | ⟨g,x,c1,t0,k,p,h4,h5,h6,h7⟩
     · exact .inl ⟨d,h4,h5,h6⟩
     · refine .inr ⟨g,x,c1,t0,k,p,h4,h5,h6,fun e he ae hx=>?_⟩;obtain⟨u,hu⟩:=h7 e he ae hx;refine⟨u,?_⟩;rw[h3 _ (fun j hj af=>?_)]
       · exact hu
       · have h8:=iQ he hcd (by omega) hj af;subst h8;have h9:=qM af;subst h9;exact hn k h4 ae
theorem mr.changes{t t':Tr}{c:Cm}{l:List Chg}(h:mr cs ident own dev nx z32 t)(hc:c∈cs)(hl:∀ch∈l,ch∈c.chs)(hs:Chs t l t'):mr cs ident own dev nx z32 t':=by
 induction hs with
 | nil=>exact h
 | @snoc t1 t2 l ch hs hch ih=>exact mr.change (ih (fun q hq=>hl q (by simp[hq]))) hc (hl ch (by simp)) hch
theorem mr.after{g x:Gp}{c:Cm}{t:Tr}(p:Plc cs ident nx z32 g c t x)(h:mr cs ident own dev nx z32 t):mr cs ident own dev nx z32 x.tr:=by
 obtain⟨hc,o⟩:=p.ok;intro n y hy;by_cases hk:∃k,k≤9∧n=anc c.au k
 · obtain⟨k,hk,rfl⟩:=hk;rw[o.x1 k hk]at hy;exact .inr ⟨g,x,c,t,k,p,hk,hy,rfl,fun e _ _ h=>h⟩
 · have hn:∀k,k≤9→n≠anc c.au k:=fun k h4 h5=>hk ⟨k,h4,h5⟩;rw[o.x2 n hn]at hy;rcases h n y hy with⟨d,h4,h5,h6⟩ | ⟨g1,x1,c1,t0,k,p1,h4,h5,h6,h7⟩
   · exact .inl ⟨d,h4,h5,h6⟩
   · refine .inr ⟨g1,x1,c1,t0,k,p1,h4,h5,h6,fun e he ae hx=>?_⟩;obtain⟨u,hu⟩:=h7 e he ae hx;by_cases af:e=c.au
     · subst af;exact absurd ae (hn k h4)
     · refine⟨u,?_⟩;rw[o.x2 _ (fun j hj ag=>?_)]
       · exact hu
       · have h8:=iQ he o.au (by omega) hj ag;subst h8;exact af (qM ag)
theorem Plc.prov{g x:Gp}{c:Cm}{t:Tr}(p:Plc cs ident nx z32 g c t x):mr cs ident own dev nx z32 t∧mr cs ident own dev nx z32 x.tr:=by
 induction p with
 | @first c t x hc h=>
   have h0:mr cs ident own dev nx z32 (g0 z32 c.f).tr:=fun n y hy=>(by cases hy);have h1:=mr.changes h0 hc (fun _ q=>q) h.ch;exact⟨h1,mr.after (.first hc h) h1⟩
 | @step b0 b x c0 c t0 t hb hc h ih=>
   have h1:=mr.changes ih.2 hc (fun _ q=>q) h.ch;exact⟨h1,mr.after (.step hb hc h) h1⟩
theorem Plc.grow{g x:Gp}{c:Cm}{t:Tr}(p:Plc cs ident nx z32 g c t x){e:Int}(he:fM e)(h:inT t e):inT x.tr e:=by
 obtain⟨hc,o⟩:=p.ok;by_cases ae:e=c.au
 · subst ae;have h1:=o.x1 0 (by decide);have h2:0 < c.pth.length:=(by rw[o.len];decide);rw[Yh h2]at h1;exact⟨_,h1⟩
 · obtain⟨u,hu⟩:=h;refine⟨u,?_⟩;rw[o.x2 _ (fun j hj af=>?_)]
   · exact hu
   · have h8:=iQ he o.au (by omega) hj af;subst h8;exact ae (qM af)
def AllP(cs:List Cm)(ident:Cm→Dg)(dev:Int)(nx:Tr→Cm→Tr)(z32:Dg)(d:Dg)(l:Nat):Prop:=
 ∃(g x:Gp) (c:Cm) (t:Tr),Plc cs ident nx z32 g c t x∧x.last=d∧l≤9∧fM dev∧inT x.tr dev∧anc c.au l=anc dev l
def AllK(cs:List Cm)(ident:Cm→Dg)(own:Int→Prop)(dev:Int)(nx:Tr→Cm→Tr)(z32:Dg)(y:Int):Prop:=
 PH cs own dev y dev∨∃(g x:Gp) (c:Cm) (t:Tr) (k:Nat),Plc cs ident nx z32 g c t x∧c.pth[k]? =some y∧AllP cs ident dev nx z32 x.last k
def All(cs:List Cm)(ident:Cm→Dg)(own:Int→Prop)(dev:Int)(nx:Tr→Cm→Tr)(z32:Dg):Sec→Prop
 | .key y=>AllK cs ident own dev nx z32 y
 | .path d l=>∃k:Nat,l=(k:Int)∧AllP cs ident dev nx z32 d k
 | .epoch d=>∃(g x:Gp) (c:Cm) (t:Tr),Plc cs ident nx z32 g c t x∧x.last=d∧fM dev∧inT x.tr dev
theorem vY(A:Apart cs ident own dev){t:Tr}(hp:mr cs ident own dev nx z32 t){n y:Int}(hy:look t n=some y)(h:AllK cs ident own dev nx z32 y):∃k,k≤9∧fM dev∧n=anc dev k∧inT t dev:=by
 rcases hp n y hy with⟨d,h1,h2,h3⟩ | ⟨g,x,c,t0,k,p,h1,h2,h3,h4⟩
 · rcases h with h5 | ⟨g,x,c,t0,k,p,h6,_⟩
   · have e:=A.ll y d dev h3 h5;subst e;exact⟨0,by decide,h1,h2,y,by rw[←h2];exact hy⟩
   · exact absurd h3 (A.pl c p.ok.1 k y d h6)
 · rcases h with h5 | ⟨g1,x1,c1,t1,k1,p1,h6,h7⟩
   · exact absurd h5 (A.pl c p.ok.1 k y dev h2)
   · obtain⟨e1,e2⟩:=A.pp c p.ok.1 c1 p1.ok.1 k k1 y h2 h6;subst e1 e2;obtain⟨g2,x2,c2,t2,p2,h8,h9,ae,af,ag⟩:=h7;have hl:x2.last=x.last:=(by rw[h8,p1.ok.2.xl,p.ok.2.xl]);obtain⟨e3,e4⟩:=p2.uniq A p hl;subst e3;rw[e4]at af;have hn:n=anc dev k:=(by rw[h3];exact ag);exact⟨k,h1,ae,hn,h4 dev ae hn af⟩
theorem secure(A:Apart cs ident own dev){s:Sec}(h:Kn cs ident own dev nx z32 s):All cs ident own dev nx z32 s:=by
 induction h with
 | own h=>exact .inl (.inr ⟨rfl,h⟩)
 | @auth g x c t p h=>
   obtain⟨hc,o⟩:=p.ok;refine⟨0,rfl,g,x,c,t,p,rfl,by decide,h▸o.au,?_,by rw[h]⟩;rw[←h];exact p.grow o.au o.ai
 | @box g x c t p b y hb hy h ih=>
   obtain⟨hc,o⟩:=p.ok;obtain⟨i,q,hi,hl,hn⟩:=o.bx b hb;obtain⟨k,hk,hd,af,ae⟩:=vY A p.prov.1 hy ih;refine⟨i+1,by rw[hl];rfl,g,x,c,t,p,rfl,by omega,hd,p.grow hd ae,?_⟩;rw[af,WG]at hn
   have h9:k+(q+1)≤9:=Nat.le_of_not_lt fun ag=>by
    rw[XF hd _ (by omega)]at hn;have :=JI o.au (show i+1≤9 by omega);omega
   have e:=iQ hd o.au h9 (show i+1≤9 by omega) hn;rw[←e];rw[←e]at hn;exact hn.symm
 | @pkey g x c t p k y hy h ih=>
   obtain⟨k',e,h1⟩:=ih;obtain rfl:k=k':=(by omega);exact .inr ⟨g,x,c,t,k,p,hy,h1⟩
 | @up g x c t p k hk h ih=>
   obtain⟨k',e,g1,x1,c1,t1,p1,h1,h2,h3,h4,h5⟩:=ih;obtain rfl:k=k':=(by omega);exact⟨k+1,by simp,g1,x1,c1,t1,p1,h1,by omega,h3,h4,Eg h5⟩
 | @ep g x c t p h ih=>
   obtain⟨k',e,g1,x1,c1,t1,p1,h1,h2,h3,h4,h5⟩:=ih;exact⟨g1,x1,c1,t1,p1,h1,h3,h4⟩
 | @wel g x c t p n y hn hy h ih=>
   obtain⟨k,hk,hd,af,ae⟩:=vY A p.prov.1 hy ih;exact⟨g,x,c,t,p,rfl,hd,p.grow hd ae⟩
theorem Plc.member{g x:Gp}{c:Cm}{t:Tr}(p:Plc cs ident nx z32 g c t x){d:Int}(hd:fM d)(h:inT x.tr d):d∈x.mem.map (·.d):=by
 have key:∀{g x:Gp} {c:Cm} {t:Tr},uQ ident nx g c t x→(inT g.tr d→d∈g.mem.map (·.d))→inT x.tr d→d∈x.mem.map (·.d):=by
  intro g x c t o hg h
  have h1:inT t d:=by
   by_cases he:d=c.au
   · subst he;exact o.ai
   · obtain⟨y,hy⟩:=h;rw[o.x2 _ (fun j hj ae=>he (by have h8:=iQ hd o.au (by omega) hj ae;subst h8;exact qM ae))]at hy;exact⟨y,hy⟩
  rcases chs_in o.ch d hd h1 with h2 | ⟨h2,h3⟩
  · exact o.mem d (.inr h2)
  · exact o.mem d (.inl ⟨hg h2,h3⟩)
 induction p with
 | first hc o=>exact key o (fun⟨y,hy⟩=>by cases hy) h
 | step hb hc o ih=>exact key o ih h
theorem outside(A:Apart cs ident own dev){g x:Gp}{c:Cm}{t:Tr}(p:Plc cs ident nx z32 g c t x)(h:Kn cs ident own dev nx z32 (.epoch x.last)):dev∈x.mem.map (·.d):=by
 obtain⟨g1,x1,c1,t1,p1,h1,h2,h3⟩:=secure A h;obtain⟨_,e⟩:=p1.uniq A p h1;rw[e]at h3;exact p.member h2 h3
end
end Top
namespace Top
theorem ry(a p:Int)(t:Tr)(n:Int):look ((a,p)::t) n=if a=n then some p else look t n:=by
 unfold look;by_cases h:a=n
 · rw[List.find?_cons_of_pos (by simp[h]),if_pos h];rfl
 · rw[List.find?_cons_of_neg (by simp[h]),if_neg h]
theorem qF(t u:Tr)(n:Int):look (t++u) n=(look t n).or (look u n):=by
 unfold look;rw[List.find?_append];cases List.find? (fun x=>decide (x.1=n)) t<;>rfl
theorem yu{t:Tr}{n y:Int}(h:look t n=some y):(n,y)∈t:=by
 unfold look at h
 cases hf:t.find? fun x=>decide (x.1=n)with
 | none=>rw[hf]at h;cases h
 | some z=>
   rw[hf]at h;have h1:=List.mem_of_find?_eq_some hf;have h2:=List.find?_some hf;simp at h2 h;obtain⟨a,b⟩:=z;simp at h2 h;subst h2 h;exact h1
theorem nN{t:Tr}{n:Int}:look t n=none↔∀x∈t,x.1≠n:=by
 unfold look;rw[Option.map_eq_none_iff,List.find?_eq_none];simp
def mW(m:Tr)(x:Int×Int):Tr:=if(look m x.1).isSome then m else m++[x]
def ofL(t:Tr):Tr:=t.foldl mW []
theorem mJ(t:Tr)(x:Int×Int):ofL (t++[x])=mW (ofL t) x:=by unfold ofL;rw[List.foldl_append];rfl
theorem JY{α:Type}{p:List α→Prop}(h0:p [])(h1:∀l a,p l→p (l++[a]))(l:List α):p l:=by
 have key:∀r:List α,p r.reverse:=fun r=>by
  induction r with
  | nil=>exact h0
  | cons a r ih=>rw[List.reverse_cons];exact h1 _ _ ih
 have :=key l.reverse;rwa[List.reverse_reverse]at this
theorem vw(t:Tr)(n:Int):look (ofL t) n=look t n:=by
 refine JY (p:=fun t=>look (ofL t) n=look t n) rfl (fun t x ih=>?_) t;rw[mJ];unfold mW;obtain⟨a,p⟩:=x;have e:look [(a,p)] n=if a=n then some p else none:=(by rw[ry];rfl);by_cases h:(look (ofL t) a).isSome=true
 · rw[if_pos h,qF,←ih,e];by_cases ha:a=n
   · subst ha;obtain⟨y,hy⟩:=Option.isSome_iff_exists.1 h;rw[hy];rfl
   · rw[if_neg ha];simp
 · rw[if_neg h,qF,qF,ih]
theorem LH(t:Tr):((ofL t).map (·.1)).Nodup:=by
 refine JY (p:=fun t=>((ofL t).map (·.1)).Nodup) List.nodup_nil (fun t x ih=>?_) t;rw[mJ];unfold mW;by_cases h:(look (ofL t) x.1).isSome=true
 · rw[if_pos h];exact ih
 · rw[if_neg h,Yn,List.nodup_append];refine⟨ih,by simp,fun a ha b hb=>?_⟩;simp at hb;subst hb;intro e;subst e
   have h2:look (ofL t) x.1=none:=by cases hl:look (ofL t) x.1 with
    | none=>rfl
    | some y=>rw[hl]at h;exact absurd rfl h
   obtain⟨z,hz,e2⟩:=Yo.1 ha;exact nN.1 h2 z hz e2
def iL(l:List Int):List Int:=l.mergeSort (fun a b=>decide (a≤b))
def gW(m:Tr):Tr:=(iL (m.map (·.1))).map fun k=>(k,(look m k).getD 0)
theorem fG(l:List Int):(iL l).Perm l:=List.mergeSort_perm l _
theorem iy(m:Tr)(n:Int):look (gW m) n=look m n:=by
 have hm:∀k,k∈iL (m.map (·.1))↔k∈m.map (·.1):=fun k=>(fG _).mem_iff
 cases h:look m n with
 | none=>
   rw[nN]at h ⊢;intro x hx;unfold gW at hx;obtain⟨k,hk,rfl⟩:=Yo.1 hx;obtain⟨z,hz,e⟩:=Yo.1 ((hm k).1 hk);show k≠n;rw[←e];exact h z hz
 | some y=>
   have hn:n∈iL (m.map (·.1)):=(hm n).2 (Yo.2 ⟨_,yu h,rfl⟩);unfold gW
   have key:∀l:List Int,n∈l→look (l.map fun k=>(k,(look m k).getD 0)) n=some y:=by
    intro l hl
    induction l with
    | nil=>cases hl
    | cons a l ih=>
      rw[Yw,ry];by_cases ha:a=n
      · subst ha;rw[if_pos rfl,h];rfl
      · rw[if_neg ha];rcases List.mem_cons.1 hl with e | h2
        · exact absurd e.symm ha
        · exact ih h2
   exact key _ hn
def upL(d:Int):List Int:=(List.range 10).map fun k=>anc d k
theorem KL{d n:Int}:n∈upL d↔∃k,k≤9∧n=anc d k:=by
 unfold upL;rw[Yo];constructor
 · rintro⟨k,hk,e⟩;exact⟨k,by have :=List.mem_range.1 hk;omega,e.symm⟩
 · rintro⟨k,hk,e⟩;exact⟨k,List.mem_range.2 (by omega),e.symm⟩
section
variable (okT:Tr→Bool)(el:Int→Bool)
def jH(t:Tr)(d:Int)(mem:Bool):Option Tr:=
 if okT t&&(decide (0≤d)&&decide (d < 512))&&(!mem||(look (ofL t) (512+d)).isSome)then some ((ofL t).filter fun x=> !(upL d).contains x.1)else none
def je(m:Tr)(n p:Int):Tr:=m.filter (fun x=> !decide (x.1=n))++[(n,p)]
def xq(t:Tr)(d p:Int):Tr:=match jH okT t d false with | none=>[] | some m=>if el p then gW (je m (512+d) p)else []
def xJ(t:Tr)(d:Int):Tr:=match jH okT t d true with | none=>[] | some m=>gW m
def nI(t:Tr)(c:Chg):Tr:=if c.k=2 then xJ okT t c.d else xq okT el t c.d c.p
def rn(t:Tr)(l:List Chg):Tr:=l.foldl (nI okT el) t
def Qo(m:Tr)(d:Int)(p:List Int):Tr:=(List.range 10).foldl (fun m k=>je m (anc d k) (p.getD k 0)) m
def wS(t:Tr)(d:Int)(p:List Int):Tr:=match jH okT t d true with | none=>[] | some m=>gW (Qo m d p)
theorem kR{t:Tr}{d:Int}{b:Bool}{m:Tr}(h:jH okT t d b=some m):fM d∧(b=true→inT t d)∧(∀k,k≤9→look m (anc d k)=none)∧∀n,(∀k,k≤9→n≠anc d k)→look m n=look t n:=by
 unfold jH at h;split at h
 · rename_i hc;obtain rfl:=Yx h;simp only[Bool.and_eq_true,decide_eq_true_eq,Bool.or_eq_true,Bool.not_eq_true']at hc;refine⟨⟨hc.1.2.1,hc.1.2.2⟩,fun hb=>?_,fun k hk=>?_,fun n hn=>?_⟩
   · rcases hc.2 with h1 | h1
     · rw[hb]at h1;cases h1
     · obtain⟨y,hy⟩:=Option.isSome_iff_exists.1 h1;rw[vw]at hy;exact⟨y,by rw[iw];exact hy⟩
   · rw[nN];intro x hx e;have :=(List.mem_filter.1 hx).2;rw[Bool.not_eq_true',e]at this;rw[List.contains_iff_mem.2 (KL.2 ⟨k,hk,rfl⟩)]at this;cases this
   · rw[←vw t n];unfold look;rw[List.find?_filter];congr 1;congr 1;funext x;by_cases e:x.1=n
     · have hc:¬n∈upL d:=fun h2=>by
        obtain⟨k,hk,e2⟩:=KL.1 h2;exact hn k hk e2
       simp[e,hc]
     · simp[e]
 · cases h
theorem nY(m:Tr)(n p k:Int):look (je m n p) k=if k=n then some p else look m k:=by
 unfold je;rw[qF];have e:look [(n,p)] k=if n=k then some p else none:=(by rw[ry];rfl);by_cases h:k=n
 · subst h
   have :look (m.filter fun x=> !decide (x.1=k)) k=none:=by
    rw[nN];intro x hx;have :=(List.mem_filter.1 hx).2;simpa using this
   rw[this,if_pos rfl,e,if_pos rfl];rfl
 · rw[if_neg h,e,if_neg (fun e2=>h e2.symm)];rw[Option.or_none];unfold look;rw[List.find?_filter];congr 2;funext x;by_cases e3:x.1=k
   · simp[e3,h]
   · simp[e3]
theorem TF(t:Tr)(c:Chg):Chd c t (nI okT el t c):=by
 unfold nI;by_cases hk:c.k=2
 · rw[if_pos hk];unfold xJ
   cases h:jH okT t c.d true with
   | none=>exact .inl fun n=>rfl
   | some m=>
     obtain⟨h1,h2,h3,h4⟩:=kR okT h;refine .inr ⟨h1,?_,fun k _ ae=>?_,fun n hn=>?_⟩
     · rw[if_pos hk];show look (gW m) _=_;rw[iy];exact h3 0 (by decide)
     · show look (gW m) _=_;rw[iy];exact h3 k ae
     · show look (gW m) _=_;rw[iy];exact h4 n hn
 · rw[if_neg hk];unfold xq
   cases h:jH okT t c.d false with
   | none=>exact .inl fun n=>rfl
   | some m=>
     show Chd c t (if el c.p then gW (je m (512+c.d) c.p)else []);by_cases he:el c.p=true
     · rw[if_pos he];obtain⟨h1,h2,h3,h4⟩:=kR okT h;refine .inr ⟨h1,?_,fun k af ae=>?_,fun n hn=>?_⟩
       · rw[if_neg hk,iy,nY,iw,if_pos rfl]
       · rw[iy,nY,if_neg ?_]
         · exact h3 k ae
         · rw[←iw];intro e;have :=iQ h1 h1 ae (by decide) e;omega
       · rw[iy,nY,if_neg ?_]
         · exact h4 n hn
         · rw[←iw];exact hn 0 (by decide)
     · rw[if_neg he];exact .inl fun n=>rfl
theorem rn_chs(t:Tr)(l:List Chg):Chs t l (rn okT el t l):=by
 refine JY (p:=fun l=>Chs t l (rn okT el t l)) (.nil t) (fun l c ih=>?_) l;have e:rn okT el t (l++[c])=nI okT el (rn okT el t l) c:=(by unfold rn;rw[List.foldl_append];rfl);rw[e];exact .snoc ih (TF okT el _ c)
theorem sS(m:Tr){d:Int}(hd:fM d)(p:List Int)(q:Nat)(hq:q≤10)(n:Int):
 ((∀k,k < q→n≠anc d k)→look ((List.range q).foldl (fun m k=>je m (anc d k) (p.getD k 0)) m) n=look m n)∧
 ∀k,k < q→n=anc d k→look ((List.range q).foldl (fun m k=>je m (anc d k) (p.getD k 0)) m) n=some (p.getD k 0):=by
 induction q with
 | zero=>exact⟨fun _=>rfl,fun k hk=>by omega⟩
 | succ q ih=>
   have e:(List.range (q+1)).foldl (fun m k=>je m (anc d k) (p.getD k 0)) m=je ((List.range q).foldl (fun m k=>je m (anc d k) (p.getD k 0)) m) (anc d q) (p.getD q 0):=by
    rw[List.range_succ,List.foldl_append];rfl
   obtain⟨i1,i2⟩:=ih (by omega);rw[e,nY];constructor
   · intro h;rw[if_neg (h q (by omega))];exact i1 fun k hk=>h k (by omega)
   · intro k hk hn;by_cases ae:k=q
     · subst ae;rw[if_pos hn]
     · rw[if_neg ?_]
       · exact i2 k (by omega) hn
       · intro e2;exact ae (iQ hd hd (by omega) (by omega) (hn.symm.trans e2))
theorem Ag{t:Tr}{d:Int}{p:List Int}{m:Tr}(h:jH okT t d true=some m)(hp:p.length=10):
 (∀k,k≤9→look (wS okT t d p) (anc d k)=p[k]?)∧∀n,(∀k,k≤9→n≠anc d k)→look (wS okT t d p) n=look t n:=by
 obtain⟨h1,h2,h3,h4⟩:=kR okT h;have e:wS okT t d p=gW (Qo m d p):=(by unfold wS;rw[h]);rw[e];refine⟨fun k hk=>?_,fun n hn=>?_⟩
 · rw[iy];have :=(sS m h1 p 10 (by decide) (anc d k)).2 k (by omega) rfl;refine this.trans ?_;rw[Yd,Yh (by omega)];rfl
 · rw[iy];exact((sS m h1 p 10 (by decide) n).1 fun k hk=>hn k (by omega)).trans (h4 n hn)
end
def oV(m:Tr):Nat→Int→List Int
 | 0,n=>if(look m n).isSome then [n]else []
 | q+1,n=>if(look m n).isSome then [n]else if 512≤n then []else oV m q (2*n)++oV m q (2*n+1)
theorem pq(m:Tr):∀(q:Nat) (n x:Int),x∈oV m q n→∃j:Nat,x / 2^j=n
 | 0,n,x,h=>by
   unfold oV at h;split at h
   · obtain rfl:=Yp.1 h;exact⟨0,by simp⟩
   · cases h
 | q+1,n,x,h=>by
   unfold oV at h;split at h
   · obtain rfl:=Yp.1 h;exact⟨0,by simp⟩
   · split at h
     · cases h
     · rcases Yt.1 h with h | h
       · obtain⟨j,hj⟩:=pq m q _ x h;exact⟨j+1,by rw[Int.pow_succ,←Int.ediv_ediv_of_nonneg (Int.le_of_lt (Int.pow_pos (by decide))),hj];omega⟩
       · obtain⟨j,hj⟩:=pq m q _ x h;exact⟨j+1,by rw[Int.pow_succ,←Int.ediv_ediv_of_nonneg (Int.le_of_lt (Int.pow_pos (by decide))),hj];omega⟩
end Top
end Go.Proofs.YtfddbnmfllgifaaGreatDoor
