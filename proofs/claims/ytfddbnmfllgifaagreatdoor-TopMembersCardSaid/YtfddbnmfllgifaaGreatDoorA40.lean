/- Part of TopMembers. -/
import Derived.Test.YtfddbnmfllgifaaGreatDoorA43
import Derived.Test.YtfddbnmfllgifaaGreatDoorA42
set_option linter.unusedVariables false
set_option linter.unusedSimpArgs false
set_option maxHeartbeats 64000000
set_option maxRecDepth 100000
namespace Go.Proofs.YtfddbnmfllgifaaGreatDoor
open Go.RowKit Cod Top
structure oZ(w:World)(v:Hd)(cs:List Cm)(vs:Nat→CmV):Prop where
 n:v.n=cs.length
 at':aN 73 w v.v cs.length (fun i=>cmC (cs.getD i cm0) (vs i))
 each:∀i,i < cs.length→kM w (cs.getD i cm0) (vs i)
theorem oZ.below{w w':World}{v:Hd}{cs:List Cm}{vs:Nat→CmV}(h:oZ w v cs vs)(b:Below w.heap.size w w'):oZ w' v cs vs:=⟨h.n,h.at'.below b,fun i hi=>(h.each i hi).below b⟩
structure CsW(cs:List Cm):Prop where
 len:cs.length≤7
 each:∀c∈cs,CmI c∧lT c
theorem CsW.get{cs:List Cm}(h:CsW cs){i:Nat}(hi:i < cs.length):CmI (cs.getD i cm0)∧lT (cs.getD i cm0):=h.each _ (aK hi)
structure CdV where
 c:CmV
 x:GpV
def cdv0:CdV:=⟨cv0,gv0⟩
def cd0:Cd:=⟨0,cm0,dA,0,g00 0⟩
abbrev CdP:=Cd×CdV
def fE:CdP:=(cd0,cdv0)
instance :Inhabited CdP:=⟨fE⟩
def cdC(a:CdP)(j:Nat):Value:=if j=0 then .int .i64 (a.1.i:Int)else if j < 74 then cmC a.1.c a.2.c (j - 1)else if j < 106 then dgC a.1.id (j - 74)else if j=106 then .int .i64 a.1.since else gpC a.1.x a.2.x (j - 107)
theorem dM(a:CdP)(j:Nat):(cdC a j).oneCell'=true:=dh rfl (dh (nZ _ _ _) (dh rfl (dh rfl (dI _ _ _))))
theorem QG(a:CdP):∀j,j < 32→cdC a (74+j)=dgC a.1.id j:=fun j hj=>by
 unfold cdC;rw[if_neg (by omega),if_neg (by omega),if_pos (by omega),show 74+j - 74=j by omega]
theorem yT(a:CdP):∀j,j < 36→cdC a (107+j)=gpC a.1.x a.2.x j:=fun j hj=>by
 unfold cdC;rw[if_neg (by omega),if_neg (by omega),if_neg (by omega),if_neg (by omega),show 107+j - 107=j by omega]
theorem qw:(Tryz.prog.info? 86).map (fun i=>(i.zero,i.size,i.bytes))=some (some (.agg (ah 143 (cdC fE))),143,344):=by kernel_rfl
abbrev GpP:=Gp×GpV
def fZ:GpP:=(g00 0,gv0)
instance :Inhabited GpP:=⟨fZ⟩
abbrev gpA(a:GpP)(j:Nat):Value:=gpC a.1 a.2 j
theorem nS:(Tryz.prog.info? 51).map (fun i=>(i.zero,i.size,i.bytes))=some (some (.agg (ah 36 (gpA fZ))),36,96):=by kernel_rfl
theorem dV.zero(w:World)(f:Int):dV w (g00 f) gv0:=⟨ax.nil _ _,ax.nil _ _⟩
theorem GpW.zero{f:Int}(h:bQ f):GpW (g00 f) where
 f:=h
 e:=⟨show(-9223372036854775808:Int)≤0 by decide,show(0:Int) < 9223372036854775808 by decide⟩
 last:=rfl
 mem:=fun m hm=>by cases hm
 ml:=Nat.zero_le _
 tr:=TrW.nil
structure Pl where
 c:Cm
 first :Bool
 t:Tr
 x:Gp
structure PlV where
 c:CmV
 t:Hd
 x:GpV
abbrev PlP:=Pl×PlV
def mf:PlP:=(⟨cm0,false,[],g00 0⟩,⟨cv0,hd0,gv0⟩)
instance :Inhabited PlP:=⟨mf⟩
def plC(a:PlP)(j:Nat):Value:=if j < 73 then cmC a.1.c a.2.c j else if j=73 then .bool a.1.first else if j=74 then a.2.t.v else gpC a.1.x a.2.x (j - 75)
theorem uK(a:PlP)(j:Nat):(plC a j).oneCell'=true:=dh (nZ _ _ _) (dh rfl (dh rfl (dI _ _ _)))
theorem plC_x(a:PlP):∀j,j < 36→plC a (75+j)=gpC a.1.x a.2.x j:=fun j hj=>by
 unfold plC;rw[if_neg (by omega),if_neg (by omega),if_neg (by omega),show 75+j - 75=j by omega]
theorem JO:(Tryz.prog.info? 122).map (fun i=>(i.zero,i.size,i.bytes))=some (some (.agg (ah 111 (plC mf))),111,328):=by kernel_rfl
abbrev DvP:=Dv×Hd
def xg:DvP:=(⟨[],sc0⟩,hd0)
instance :Inhabited DvP:=⟨xg⟩
def dvC(a:DvP)(j:Nat):Value:=if j=0 then a.2.v else scC a.1.tt (j - 1)
theorem BH(a:DvP)(j:Nat):(dvC a j).oneCell'=true:=dh rfl (eG _ _)
theorem Qe(a:DvP):∀j,j < 35→dvC a (1+j)=scC a.1.tt j:=fun j hj=>by
 unfold dvC;rw[if_neg (by omega),show 1+j - 1=j by omega]
theorem XU:(Tryz.prog.info? 96).map (fun i=>(i.zero,i.size,i.bytes))=some (some (.agg (ah 36 (dvC xg))),36,80):=by kernel_rfl
theorem nV:(Tryz.prog.info? 37).map (fun i=>(i.zero,i.size,i.bytes))=some (some (.agg (ah 35 (scC sc0))),35,56):=by kernel_rfl
theorem Dc:(Tryz.prog.info? 35).map (fun i=>(i.zero,i.size,i.bytes))=some (some (.agg (ah 32 (dgC dA))),32,32):=by kernel_rfl
theorem jc:(Tryz.prog.info? 3).map (fun i=>(i.zero,i.size,i.bytes))=some (some (.int .i64 0),1,8):=by kernel_rfl
theorem dD{P:Program}{ops:Array Oper}{Q:Exit→Act→World→Prop}{a:Act}{w:World}{rest:List Oper}{o:Oper}(hw:Region.wanted o (yielded ops a.tmps)=false)(h:wpList P ops Q rest (a.put o.dst undef) w):wpList P ops Q (o::rest) a w:=by
 unfold wpList;rw[if_neg (by rw[hw];decide)];exact h
theorem Ec{d:Int}(h:dS d=true):fM d:=by unfold dS at h;unfold fM;simp at h;omega
theorem Ri{n:Int}(h:2≤n):vZ n / 2=n / 2:=by unfold vZ;split<;>omega
theorem FM(t:Tr)(au:Int){x:Int×Int}:∀k,x∈iP t au k→∃i:Nat,i < k∧x∈Ej t au i
 | 0,h=>by cases h
 | k+1,h=>by
   rcases Yt.1 h with h | h
   · obtain⟨i,hi,h2⟩:=FM t au k h;exact⟨i,by omega,h2⟩
   · exact⟨k,by omega,h⟩
theorem WE{t:Tr}{au:Int}{x:Int×Int}(hx:x∈jA t au):∃i q:Nat,i < 9∧x.1=(i:Int)+1∧x.2 / 2^(q+1)=anc au (i+1):=by
 unfold jA at hx;by_cases hd:dS au=true
 · rw[if_pos hd]at hx;obtain⟨i,hi,h2⟩:=FM t au 9 hx;unfold Ej at h2;obtain⟨z,hz,rfl⟩:=Yo.1 h2;unfold qG at hz;split at hz
   · obtain⟨j,hj⟩:=pq _ _ _ _ hz;refine⟨i,j,hi,rfl,?_⟩;have h3:=wB (Ec hd) i (by omega)
     have h4:(2:Int)≤2^(9 - i):=by
      have :=Bd (show 1≤9 - i by omega);omega
     show z / 2^(j+1)=_;rw[Int.pow_succ,←Int.ediv_ediv_of_nonneg (Int.le_of_lt (Int.pow_pos (by decide))),hj,Ri (by omega),mF]
   · cases hz
 · rw[if_neg hd]at hx;cases hx
def Am(c:Cm)(m:Me):Bool:=c.chs.any fun y=>decide (y.d=m.d)
def Dq(c:Cm):List Me:=(c.chs.filter fun y=> !decide (y.k=2)).map fun y=>⟨y.d,c.e,y.v⟩
def Hy(g:Gp)(c:Cm):List Me:=(g.mem.filter fun m=> !Am c m)++Dq c
theorem WA{g:Gp}{c:Cm}(d:Int)(h:(d∈g.mem.map (·.d)∧∀ch∈c.chs,ch.d≠d)∨(∃ch∈c.chs,ch.d=d∧ch.k≠2)):d∈(Hy g c).map (·.d):=by
 unfold Hy;rw[Yn,Yt];rcases h with⟨h1,h2⟩ | ⟨ch,h1,h2,h3⟩
 · obtain⟨m,hm,rfl⟩:=Yo.1 h1;refine .inl (Yo.2 ⟨m,List.mem_filter.2 ⟨hm,?_⟩,rfl⟩)
   have :Am c m=false:=by
    unfold Am;rw[List.any_eq_false];intro y hy;simpa using h2 y hy
   rw[this];rfl
 · refine .inr (Yo.2 ⟨⟨ch.d,c.e,ch.v⟩,Yo.2 ⟨ch,List.mem_filter.2 ⟨h1,by simpa using h3⟩,rfl⟩,h2⟩)
theorem Pj(c:Cm):(Dq c).length≤c.chs.length:=by unfold Dq;rw[Yk];exact List.length_filter_le _ _
theorem renL_w{t:Tr}(hw:TrW t){d:Int}{p:List Int}(hl:p.length=10)(hp:∀y∈p,aU y=true):TrW (wS okT t d p):=by
 unfold wS
 cases h:jH okT t d true with
 | none=>exact TrW.nil
 | some m=>
   obtain⟨hm,hd⟩:=kU hw h;exact(Jq hm hd hl hp 10 (Ya _)).tree
theorem nx_of{g:Gp}{c:Cm}{mem:List Me}{m:Tr}(he:c.e=g.e+1)(hf:c.f=g.f)(hp:c.par=g.last)(hd:dS c.au=true)(hl:c.pth.length=10)
 (hb:c.bxs.length=(jA (rn okT aU g.tr c.chs) c.au).length∧∀i,i < c.bxs.length→(c.bxs.getD i bx0).n=((jA (rn okT aU g.tr c.chs) c.au).getD i (0,0)).2∧(c.bxs.getD i bx0).l=((jA (rn okT aU g.tr c.chs) c.au).getD i (0,0)).1)
 (hc:jH okT (rn okT aU g.tr c.chs) c.au true=some m) (hm:mem.Perm (Hy g c)):Nx g c ⟨g.f,c.e,aV c,mem,wS okT (rn okT aU g.tr c.chs) c.au c.pth⟩ where
 f:=hf
 xf:=rfl
 ok:=
  {ep:=he
   pa:=hp
   xe:=rfl
   xl:=rfl
   au:=Ec hd
   len:=hl
   bx:=fun b ae=>by
    obtain⟨i,hi,rfl⟩:=List.mem_iff_getElem.1 ae;obtain⟨e1,e2⟩:=hb.2 i hi;have e0:c.bxs.getD i bx0=c.bxs[i]:=(by rw[Yd,Yh hi];rfl);rw[e0]at e1 e2;have hx:(jA (rn okT aU g.tr c.chs) c.au).getD i (0,0)∈jA (rn okT aU g.tr c.chs) c.au:=aK (by rw[←hb.1];exact hi);obtain⟨k,q,h1,h2,h3⟩:=WE hx;exact⟨k,q,h1,by rw[e2,h2],by rw[e1,h3]⟩
   ch:=rn_chs okT aU g.tr c.chs
   ai:=(kR okT hc).2.1 rfl
   x1:=(Ag okT hc hl).1
   x2:=(Ag okT hc hl).2
   mem:=fun d h=>by
    have h2:=WA d h;exact(hm.map (·.d)).mem_iff.2 h2
   det:=rfl}
def NxO(w w':World)(g:Gp)(c:Cm)(e:Ending):Prop:=∃x xv,∃z:Int,e=.returned (.tuple #[.agg (ah 36 (gpC x xv)),.int .i64 z])∧Below w.heap.size w w'∧dV w' x xv∧GpW x∧(z=0→Nx g c x)
theorem NxO.no{w w':World}{g:Gp}{c:Cm}{z:Int}(b:Below w.heap.size w w')(h:z≠0):NxO w w' g c (.returned (.tuple #[.agg (ah 36 (gpC (g00 0) gv0)),.int .i64 z])):=
 ⟨g00 0,gv0,z,rfl,b,dV.zero _ _,GpW.zero ⟨by decide,by decide⟩,fun e=>absurd e h⟩
def KpC(n:Nat)(w0 w:World):Prop:=Below n w0 w∧n≤w.heap.size
theorem KpC.below{n:Nat}{w0 w w':World}(h:KpC n w0 w)(b:Below w.heap.size w w'):KpC n w0 w':=⟨h.1.trans (b.mono h.2),Yc h.2 b.size⟩
theorem MO(a b:Nat→Value)(n l n' l':Int)(w:World)(h1:a 0=.int .i64 n)(h2:a 1=.int .i64 l)(h3:b 0=.int .i64 n')(h4:b 1=.int .i64 l'):
 Calls Tryz.prog 116 #[.agg (ah 4 a),.agg (ah 4 b)] w (zr (.bool (decide (n=n')&&decide (l=l'))) w):=by
 have H1:=zh h1;have H2:=zh h2;have H3:=zh h3;have H4:=zh h4;obtain⟨k1,ae⟩:=zg (decide (n=n'));obtain⟨k2,af⟩:=zg (decide (l=l'));have e1:(n==n')=k1:=ae;have e2:(l==l')=k2:=af;rw[ae,af];clear h1 h2 h3 h4 ae af;go_in;have B0:=zh (Yb w.heap.size w);go_upto_region 1 with fail;obtain⟨w1,ag,b1,z1,A1⟩:=zW w 153 4 a;rw[ag];(try rw[z1]);have B1:=zD B0 b1;clear b1 ag z1 B0;obtain⟨w2,ai,b2,z2,C2⟩:=zW w1 153 4 b;rw[ai];(try rw[z2]);have B2:=zD B1 b2;have A2:=zh (A1.below b2);clear b2 ai z2 B1 A1;have x0:w2.cell? ⟨w.heap.size,0,none⟩=some (.int .i64 n):=(by rw[←H1.o];exact A2.cell (i:=0) (by decide));have x1:w2.cell? ⟨w.heap.size,1,none⟩=some (.int .i64 l):=(by rw[←H2.o];exact A2.cell (i:=1) (by decide));have y0:w2.cell? ⟨w1.heap.size,0,none⟩=some (.int .i64 n'):=by rw[←H3.o];exact C2.cell (i:=0) (by decide)
 have y1:w2.cell? ⟨w1.heap.size,1,none⟩=some (.int .i64 l'):=by rw[←H4.o];exact C2.cell (i:=1) (by decide)
 cases k1 with
 | true=>
   go_wp2_with fail;go_ret;exact⟨by simp,B2.o⟩
 | false=>
   clear e2;go_wp2_with fail;go_ret;exact⟨by simp,B2.o⟩
theorem N9(a b:Nat→Value)(n n':Int)(w:World)(h1:a 0=.int .i64 n)(h3:b 1=.int .i64 n'):
 Calls Tryz.prog 117 #[.agg (ah 3 a),.agg (ah 5 b)] w (zr (.bool (decide (n=n'))) w):=by
 have H1:=zh h1;have H3:=zh h3;obtain⟨k1,ae⟩:=zg (decide (n=n'));have e1:(n==n')=k1:=ae;rw[ae];clear h1 h3 ae;go_in;have B0:=zh (Yb w.heap.size w);go_upto_region 1 with fail;obtain⟨w1,af,b1,z1,A1⟩:=zW w 155 3 a;rw[af];(try rw[z1]);have B1:=zD B0 b1;clear b1 af z1 B0;obtain⟨w2,ag,b2,z2,C2⟩:=zW w1 75 5 b;rw[ag];(try rw[z2]);have B2:=zD B1 b2;have A2:=zh (A1.below b2);clear b2 ag z2 B1 A1;have x0:w2.cell? ⟨w.heap.size,0,none⟩=some (.int .i64 n):=(by rw[←H1.o];exact A2.cell (i:=0) (by decide));have y1:w2.cell? ⟨w1.heap.size,1,none⟩=some (.int .i64 n'):=(by rw[←H3.o];exact C2.cell (i:=1) (by decide));go_wp2_with fail;go_ret;exact⟨by simp,B2.o⟩
abbrev JW(f e:Int)(d:Dg):Array (Nat×Value):= #[(0,.int .i64 f),(1,.int .i64 e),(2,.agg (ah 32 (dgC d)))]
theorem Tq(f e:Int)(d:Dg)(W:World):(Instr.build 51 (JW f e d)).run Tryz.prog W=.ok (.agg (ah 36 (gpC ⟨f,e,d,[],[]⟩ gv0))) W:=by kernel_rfl
theorem Na(W:World):(Instr.build 51 #[]).run Tryz.prog W=.ok (.agg (ah 36 (gpC (g00 0) gv0))) W:=by kernel_rfl
def xH(c:Cm)(k:Nat):List Me:=((c.chs.take k).filter fun y=> !decide (y.k=2)).map fun y=>⟨y.d,c.e,y.v⟩
theorem QP(c:Cm)(k:Nat):(xH c k).length≤c.chs.length:=by
 unfold xH;rw[Yk];exact Yc (List.length_filter_le _ _) (by rw[Yu];omega)
theorem Md(c:Cm){k:Nat}(h:k < c.chs.length):xH c (k+1)=xH c k++(if(c.chs.getD k ch0).k=2 then []else [⟨(c.chs.getD k ch0).d,c.e,(c.chs.getD k ch0).v⟩]):=by
 unfold xH;rw[aH ch0 _ h,List.filter_append,Yn];by_cases h2:(c.chs.getD k ch0).k=2
 · rw[if_pos h2,List.filter_cons_of_neg (by simpa using h2)];rfl
 · rw[if_neg h2,List.filter_cons_of_pos (by simpa using h2)];rfl
theorem WT(f e:Int)(d:Dg)(m:List Me)(t:Tr)(hm ht:Hd):∀i,i < 36→(if 35≤i∧i < 35+1 then(fun _=>ht.v) (i - 35)else gpC ⟨f,e,d,m,[]⟩ ⟨hm,hd0⟩ i)=gpC ⟨f,e,d,m,t⟩ ⟨hm,ht⟩ i:=by
 intro i hi;unfold gpC;by_cases h:i=35
 · subst h;rfl
 · rw[if_neg (by omega)];by_cases h2:i=34
   · subst h2;rfl
   · by_cases h3:i=0
     · rw[if_pos h3,if_pos h3]
     · by_cases h4:i=1
       · rw[if_neg h3,if_pos h4,if_neg h3,if_pos h4]
       · rw[if_neg h3,if_neg h4,if_pos (by omega),if_neg h3,if_neg h4,if_pos (by omega)]
theorem TR(f e:Int)(d:Dg)(m m':List Me)(t:Tr)(hm hm' ht:Hd):∀i,i < 36→(if i=34 then hm'.v else gpC ⟨f,e,d,m,t⟩ ⟨hm,ht⟩ i)=gpC ⟨f,e,d,m',t⟩ ⟨hm',ht⟩ i:=by
 intro i hi;unfold gpC;by_cases h2:i=34
 · subst h2;rfl
 · rw[if_neg h2];by_cases h3:i=0
   · rw[if_pos h3,if_pos h3]
   · by_cases h4:i=1
     · rw[if_neg h3,if_pos h4,if_neg h3,if_pos h4]
     · by_cases h5:i < 34
       · rw[if_neg h3,if_neg h4,if_pos h5,if_neg h3,if_neg h4,if_pos h5]
       · rw[if_neg h3,if_neg h4,if_neg h5,if_neg h2,if_neg h3,if_neg h4,if_neg h5,if_neg h2]
theorem IG(ch:Chg)(m:Me)(A:Nat)(w:World)(hA:ag w A 53 3 (meC m)):
 Calls Tryz.prog 127 #[.agg (ah 5 (chC ch)),.pointer (some ⟨A,0,none⟩)] w (zr (.bool (decide (ch.d=m.d))) w):=by
 have A0:=zh hA;obtain⟨k1,ae⟩:=zg (decide (ch.d=m.d));have e1:(ch.d==m.d)=k1:=ae;rw[ae];clear hA ae;go_in;have B0:=zh (Yb w.heap.size w);go_upto_region 1 with fail;obtain⟨w1,af,b1,z1,C1⟩:=zW w 75 5 (chC ch);rw[af];(try rw[z1]);have B1:=zD B0 b1;have A1:=zh (A0.below b1);clear b1 af z1 B0 A0;have x0:w1.cell? ⟨A,0,none⟩=some (.int .i64 m.d):=A1.cell (i:=0) (by decide);have y1:w1.cell? ⟨w.heap.size,1,none⟩=some (.int .i64 ch.d):=C1.cell (i:=1) (by decide);obtain⟨yd,ai⟩:=zg ch.d;obtain⟨md,aj⟩:=zg m.d;rw[ai]at y1 e1;rw[aj]at x0 e1;clear ai aj;go_wp2_with fail;go_ret;exact⟨by simp,B1.o⟩
theorem yO{α:Type}(d:α)(p:α→Bool)(l:List α):jF (fun i=>p (l.getD i d)) l.length=l.any p:=by
 cases h:l.any p with
 | true=>
   obtain⟨x,hx,hp⟩:=List.any_eq_true.1 h;obtain⟨i,hi,rfl⟩:=List.mem_iff_getElem.1 hx;exact yJ.2 ⟨i,hi,by rw[Yd,Yh hi];exact hp⟩
 | false=>
   rw[List.any_eq_false]at h
   exact vT.2 fun i hi=>by
    have :=h _ (aK (d:=d) hi);simpa using this
theorem Py(c:Cm)(v:CmV)(m:Me)(A:Nat)(w:World)(hA:ag w A 71 73 (cmC c v))(hs:aN 5 w v.ch.v c.chs.length (fun i=>chC (c.chs.getD i ch0)))(hn:c.chs.length≤1000000):
 Calls Tryz.prog 125 #[.agg (ah 3 (meC m)),.pointer (some ⟨A,0,none⟩)] w (zr (.bool (Am c m)) w):=by
 have A0:=zh hA;obtain⟨ca,ck,hv⟩:=hs.slice;have HV:=zh hv;have S0:Hid (aN 5 w (.slice ca c.chs.length ck) c.chs.length (fun i=>chC (c.chs.getD i ch0))):=zh (by rw[←hv];exact hs);have HN:=zh hn;have CB:Hid (jF (fun i=>decide ((c.chs.getD i ch0).d=m.d)) c.chs.length=Am c m):=zh (yO ch0 (fun y=>decide (y.d=m.d)) c.chs);obtain⟨n1,ae⟩:=zg c.chs.length;rw[ae]at HV S0 HN CB;obtain⟨R,hR⟩:=zg (Am c m);rw[hR]at CB ⊢;clear hA hv hs hn ae hR;have aj:=zM Tryz.prog;go_in;have B0:=zh (Yb w.heap.size w);go_upto_region 1 with fail;obtain⟨w1,af,b1,z1,C1⟩:=zW w 53 3 (meC m);rw[af];(try rw[z1]);have B1:=zD B0 b1;have A1:=zh (A0.below b1);have S1:=zh (S0.below b1);clear b1 af z1 B0 A0 S0;have ai:w1.cell? ⟨A,35,none⟩=some (.slice ca n1 ck):=by rw[←HV.o];exact A1.cell (i:=35) (by decide)
 have HC:=zh (kK (enters_of Tryz.func127 (by kernel_rfl) rfl) (lb:= #[.pointer (some ⟨w.heap.size,0,none⟩)]) (fun i=>decide ((c.chs.getD i ch0).d=m.d)) n1 _ _ w1 S1.o HN.o (fun i W _ hW=>IG _ m w.heap.size W (C1.below hW)));rw[CB.o]at HC;clear CB;go_wp2_with fail;refine HC.mono ?_;rintro e w2 ⟨rfl,b2⟩;have B2:=zD B1 b2;clear HC b2 ai;go_wp2_with fail;go_ret;exact⟨rfl,B2.o⟩
theorem yX(g:Gp)(v:GpV)(c:Cm)(cv:CmV)(w:World)(hT:Tab w)(hg:dV w g v)(hw:GpW g)(hc:kM w c cv)(hi:CmI c)(hf:lT c):
 Calls Tryz.prog 72 #[.agg (ah 36 (gpC g v)),.agg (ah 73 (cmC c cv))] w fun e w'=>NxO w w' g c e:=by
 have T0:=zh hT;have TE:=zh hT;have ME:=zh hg.1;have RE:=zh hg.2;have KE:=zh hc;have M0:=zh hg.1;have R0:=zh hg.2;have K0:=zh hc;have GW:=zh hw;have CI:=zh hi;have CF:=zh hf;have S0:=zh hc.1;have P0:=zh hc.2.1;obtain⟨ca,ck,gz⟩:=hc.1.slice;obtain⟨pa,pk,gB⟩:=hc.2.1.slice;obtain⟨us,gG, -⟩:=hc.2.2.1;obtain⟨jq,gI, -⟩:=hc.2.2.2;obtain⟨ba,bk,gJ⟩:=gG.slice;obtain⟨wa,wk,gK⟩:=gI.slice;have SE:=zh hc.1;have PE:=zh hc.2.1;have X0:=zh gG;have W0:=zh gI;have bV:=zh gz;have jr:=zh gB;have jv:=zh gJ;have jw:=zh gK;rw[gz]at S0 SE;rw[gB]at P0 PE;rw[gJ]at X0;rw[gK]at W0;clear hT hg hw hc hi hf gz gB gJ gK gG gI;go_in;have B0:=zh (Yb w.heap.size w);go_upto_region 1 with fail;obtain⟨w1,jy,b1,z1,G1⟩:=zW w 51 36 (gpC g v);rw[jy];(try rw[z1]);have B1:=zD B0 b1;have T1:=zh (T0.below b1);have M1:=zh (M0.below b1);have R1:=zh (R0.below b1);have K1:=zh (K0.below b1);have S1:=zh (S0.below b1)
 have P1:=zh (P0.below b1);have X1:=zh (X0.below b1);have W1:=zh (W0.below b1);clear b1 jy z1 B0 T0 M0 R0 K0 S0 P0 X0 W0;have LW:=zh (show w.heap.size≤w1.heap.size from B1.size);obtain⟨w2,jB,b2,z2,C2⟩:=zW w1 71 73 (cmC c cv);rw[jB];(try rw[z2]);have B2:=zD B1 b2;have T2:=zh (T1.below b2);have M2:=zh (M1.below b2);have R2:=zh (R1.below b2);have K2:=zh (K1.below b2);have S2:=zh (S1.below b2);have P2:=zh (P1.below b2);have X2:=zh (X1.below b2);have W2:=zh (W1.below b2);have G2:=zh (G1.below b2);clear b2 jB z2 B1 T1 M1 R1 K1 S1 P1 X1 W1 G1;have LY:=zh (show w.heap.size≤w2.heap.size from B2.size);have LX:=zh (show w1.heap.size < w2.heap.size from C2.lt)
 obtain⟨w3,jC,b3,z3,Y3⟩:=zQ w2 (.cells #[.int .i64 0,.int .i64 0,.int .u8 0,.int .u8 0,.int .u8 0,.int .u8 0,.int .u8 0,.int .u8 0,.int .u8 0,.int .u8 0,.int .u8 0,.int .u8 0,.int .u8 0,.int .u8 0,.int .u8 0,.int .u8 0,.int .u8 0,.int .u8 0,.int .u8 0,.int .u8 0,.int .u8 0,.int .u8 0,.int .u8 0,.int .u8 0,.int .u8 0,.int .u8 0,.int .u8 0,.int .u8 0,.int .u8 0,.int .u8 0,.int .u8 0,.int .u8 0,.int .u8 0,.int .u8 0,.slice none 0 0,.slice none 0 0] 51) 51 36 (gpC (g00 0) gv0) rfl;rw[jC];(try rw[z3]);have B3:=zD B2 b3;have T3:=zh (T2.below b3);have M3:=zh (M2.below b3);have R3:=zh (R2.below b3);have K3:=zh (K2.below b3);have S3:=zh (S2.below b3);have P3:=zh (P2.below b3);have X3:=zh (X2.below b3);have W3:=zh (W2.below b3);have G3:=zh (G2.below b3);have C3:=zh (C2.below b3);clear b3 jC z3 B2 T2 M2 R2 K2 S2 P2 X2 W2 G2 C2;have ML:=zh (show g.mem.length≤1000000 from Yc GW.ml (by decide))
 have VA:=zh (vX g v w3 ⟨M3.o,R3.o⟩ GW.tr GW.last ML.o);go_wp2_with(with_reducible refine zS 13 ?_);refine zh (zL G3 rfl YO ?_);go_wp2_with fail;refine VA.mono ?_;rintro e w4 ⟨r,rfl,hv,b4⟩;clear hv VA;have B4:=zD B3 b4;have T4:=zh (T3.below b4);have M4:=zh (M3.below b4);have R4:=zh (R3.below b4);have K4:=zh (K3.below b4);have S4:=zh (S3.below b4);have P4:=zh (P3.below b4);have X4:=zh (X3.below b4);have W4:=zh (W3.below b4);have G4:=zh (G3.below b4);have C4:=zh (C3.below b4);have Y4:=zh (Y3.below b4);clear b4 B3 T3 M3 R3 K3 S3 P3 X3 W3 G3 C3 Y3
 cases r with
 | false=>
   go_wp2_with(with_reducible refine zS 16 ?_);refine zh (zL Y4 rfl YO ?_);go_wp2_with(with_reducible refine zn ?_);refine zh (zV Y4 rfl (gpC (g00 0) gv0) rfl YO (fun j _=>dI _ _ j) ?_);intro wz Zz oz;go_wp2_with fail;refine bodyPost_ret (v:=.tuple #[.agg (ah 36 (gpC (g00 0) gv0)),.int .i64 1]) (by exact zb (u:=5) Zz rfl rfl YO) rfl ?_;exact NxO.no (B4.trans (oz.below LY.o B4.size)) (by decide)
 | true=>
 have CK:=zh (IU c cv w4 K4.o (by have :=CF.1;omega) (by have :=CF.2.1;omega) (by have :=CF.2.2.1;omega) (by have :=CF.2.2.2.1;omega));go_wp2_with(with_reducible refine zS 17 ?_);refine zh (zL C4 rfl YU ?_);go_wp2_with fail;refine CK.mono ?_;rintro e w5 ⟨z,rfl,b5,hz⟩;have Z5:=zh hz;clear hz CK;have B5:=zD B4 b5;have T5:=zh (T4.below b5);have M5:=zh (M4.below b5);have R5:=zh (R4.below b5);have K5:=zh (K4.below b5);have S5:=zh (S4.below b5);have P5:=zh (P4.below b5);have X5:=zh (X4.below b5);have W5:=zh (W4.below b5);have G5:=zh (G4.below b5);have C5:=zh (C4.below b5);have Y5:=zh (Y4.below b5);clear b5 B4 T4 M4 R4 K4 S4 P4 X4 W4 G4 C4 Y4;by_cases h0:z=0;rotate_left
 · have d0:(z !=0)=true:=(by rw[bne_iff_ne];exact h0);have H0:=zh h0;clear h0;go_wp2_with(with_reducible refine zS 21 ?_);refine zh (zL Y5 rfl YO ?_);go_wp2_with(with_reducible refine zn ?_);refine zh (zV Y5 rfl (gpC (g00 0) gv0) rfl YO (fun j _=>dI _ _ j) ?_);intro wz Zz oz;go_wp2_with fail;refine bodyPost_ret (v:=.tuple #[.agg (ah 36 (gpC (g00 0) gv0)),.int .i64 z]) (by exact zb (u:=5) Zz rfl rfl YO) rfl ?_;exact NxO.no (B5.trans (oz.below LY.o B5.size)) H0.o
 subst h0;have eu:=zh (Z5.o rfl);clear Z5;have x0:w5.cell? ⟨w1.heap.size,0,none⟩=some (.int .i64 c.f):=C5.cell (i:=0) (by decide);have x1:w5.cell? ⟨w1.heap.size,1,none⟩=some (.int .i64 c.e):=C5.cell (i:=1) (by decide);have y0:w5.cell? ⟨w.heap.size,0,none⟩=some (.int .i64 g.f):=G5.cell (i:=0) (by decide);have y1:w5.cell? ⟨w.heap.size,1,none⟩=some (.int .i64 g.e):=G5.cell (i:=1) (by decide);obtain⟨cf,gQ⟩:=zg c.f;obtain⟨gf,gU⟩:=zg g.f;obtain⟨ce,gV⟩:=zg c.e;obtain⟨ge,gW⟩:=zg g.e;have HF:=zh gQ;have ni:=zh gU;have HE:=zh gV;have jD:=zh gW;rw[gQ]at x0;rw[gU]at y0;rw[gV]at x1;rw[gW]at y1;clear gQ gU gV gW;obtain⟨gX,bW⟩:=zg (IntKind.i64.wrap (ge+1));by_cases gY:cf=gf;rotate_left
 · have d0:(cf !=gf)=true:=(by rw[bne_iff_ne];exact gY);clear gY;go_wp2_with(with_reducible refine zS 43 ?_);refine zh (zL Y5 rfl YO ?_);go_wp2_with(with_reducible refine zn ?_);refine zh (zV Y5 rfl (gpC (g00 0) gv0) rfl YO (fun j _=>dI _ _ j) ?_);intro wz Zz oz;go_wp2_with fail;refine bodyPost_ret (v:=.tuple #[.agg (ah 36 (gpC (g00 0) gv0)),.int .i64 220]) (by exact zb (u:=5) Zz rfl rfl YO) rfl ?_;exact NxO.no (B5.trans (oz.below LY.o B5.size)) (by decide)
 subst gY;by_cases dh:ce=gX;rotate_left
 · have d0:(cf !=cf)=false:=(by simp);have d1:(ce !=gX)=true:=(by rw[bne_iff_ne];exact dh);clear dh;go_wp2_with(with_reducible refine zS 43 ?_);refine zh (zL Y5 rfl YO ?_);go_wp2_with(with_reducible refine zn ?_);refine zh (zV Y5 rfl (gpC (g00 0) gv0) rfl YO (fun j _=>dI _ _ j) ?_);intro wz Zz oz;go_wp2_with fail;refine bodyPost_ret (v:=.tuple #[.agg (ah 36 (gpC (g00 0) gv0)),.int .i64 220]) (by exact zb (u:=5) Zz rfl rfl YO) rfl ?_;exact NxO.no (B5.trans (oz.below LY.o B5.size)) (by decide)
 have d0:(cf !=cf)=false:=(by simp);have d1:(ce !=gX)=false:=by simp[dh]
 have EE:Hid (c.e=g.e+1):=zh (by
  have h1:=eu.2.1;have h2:=GW.e;rw[HE.o]at h1;rw[jD.o]at h2;unfold bQ at h2;rw[HE.o,jD.o,dh,←bW];by_cases h3:ge+1 < 9223372036854775808
  · exact IntWalk.i64_in _ (by omega)
  · obtain rfl:ge=9223372036854775807:=(by omega);rw[dh,←bW]at h1
    exact absurd h1 (by decide))
 clear dh;have jE:=zh (fun W=>Bq (a:=c.par) (b:=g.last) CI.par GW.last W);have jF:=zh (fun W=>jK .neq (.tmp 38) (.tmp 40) c.par g.last W);go_wp2_with(with_reducible refine zS 38 ?_);refine zh (aX rfl ?_);refine zP C5 2 rfl YQ (dgC c.par) (by decide) (qE c cv) ?_;go_wp2_with(with_reducible refine zS 40 ?_);refine zh (aX rfl ?_);refine zP G5 2 rfl YQ (dgC g.last) (by decide) (jX g v) ?_;have e1:=jE.o;have e2:=jF.o;clear x0 x1 y0 y1 d0 d1 bW jE jF;by_cases dJ:c.par=g.last;rotate_left
 · have d0:decide (c.par=g.last)=false:=zT dJ;rw[d0]at e1;clear dJ d0;go_wp2_with(with_reducible refine zS 43 ?_);refine zh (zL Y5 rfl YO ?_);go_wp2_with(with_reducible refine zn ?_);refine zh (zV Y5 rfl (gpC (g00 0) gv0) rfl YO (fun j _=>dI _ _ j) ?_);intro wz Zz oz;go_wp2_with fail;refine bodyPost_ret (v:=.tuple #[.agg (ah 36 (gpC (g00 0) gv0)),.int .i64 220]) (by exact zb (u:=5) Zz rfl rfl YO) rfl ?_;exact NxO.no (B5.trans (oz.below LY.o B5.size)) (by decide)
 have d0:decide (c.par=g.last)=true:=zt dJ;rw[d0]at e1;have PP:=zh dJ;clear dJ d0;have eF:w5.cell? ⟨w1.heap.size,34,none⟩=some (.int .i64 c.au):=C5.cell (i:=34) (by decide);have eG:w5.cell? ⟨w1.heap.size,35,none⟩=some (.slice ca c.chs.length ck):=(by rw[←bV.o];exact C5.cell (i:=35) (by decide));obtain⟨n1,eH⟩:=zg c.chs.length;have aT:=zh eH;have ND:=zh (Gh g v c.au c.chs ca ck w5 ⟨M5.o,R5.o⟩ GW.tr GW.last ML.o S5.o (by have :=CF.1;omega));obtain⟨au,eP⟩:=zg c.au;have di:=zh eP;rw[eP]at eF;rw[eH]at eG;rw[eH,eP]at ND;clear eP eH;go_wp2_with(with_reducible refine zS 45 ?_);refine zh (zL G5 rfl YO ?_);clear e1 e2;go_wp2_with fail;refine ND.mono ?_;rintro e w6 ⟨u,z,l',rfl,ho,b6,hz⟩;have O6:=zh ho;have Z6:=zh hz;clear ho hz ND eF eG;have B6:=zD B5 b6;have T6:=zh (T5.below b6);have M6:=zh (M5.below b6);have R6:=zh (R5.below b6);have K6:=zh (K5.below b6);have S6:=zh (S5.below b6)
 have P6:=zh (P5.below b6);have X6:=zh (X5.below b6);have W6:=zh (W5.below b6);have G6:=zh (G5.below b6);have C6:=zh (C5.below b6);have Y6:=zh (Y5.below b6);clear b6 B5 T5 M5 R5 K5 S5 P5 X5 W5 G5 C5 Y5;obtain⟨ua,uc,rfl⟩:=O6.slice;by_cases h0:z=0;rotate_left
 · have d0:(z !=0)=true:=(by rw[bne_iff_ne];exact h0);have H0:=zh h0;obtain⟨nl,dm⟩:=zg l'.length;rw[dm];clear h0 dm;go_wp2_with(with_reducible refine zS 55 ?_);refine zh (zL Y6 rfl YO ?_);go_wp2_with(with_reducible refine zn ?_);refine zh (zV Y6 rfl (gpC (g00 0) gv0) rfl YO (fun j _=>dI _ _ j) ?_);intro wz Zz oz;go_wp2_with fail;refine bodyPost_ret (v:=.tuple #[.agg (ah 36 (gpC (g00 0) gv0)),.int .i64 z]) (by exact zb (u:=5) Zz rfl rfl YO) rfl ?_;exact NxO.no (B6.trans (oz.below LY.o B6.size)) H0.o
 subst h0;obtain⟨rfl,jG,jI,jJ⟩:=Z6.o rfl;have ny:=zh jG;have nz:=zh jI;have nC:=zh jJ;clear Z6 jG jI jJ;obtain⟨tr,gZ⟩:=zg (rn okT aU g.tr c.chs);have dK:=zh gZ;rw[gZ]at O6 ⊢
 have eQ:Hid ((jA tr au).length≤4608):=zh (by
  unfold jA;split
  · exact qZ tr au 9
  · exact Nat.zero_le _)
 obtain⟨nd,ig⟩:=zg (jA tr au);have nD:=zh ig;rw[ig]at O6 eQ ⊢;obtain⟨nl,dm⟩:=zg nd.length;have ik:=zh dm;rw[dm]at O6 eQ ⊢;obtain⟨n3,iq⟩:=zg c.bxs.length;have jL:=zh iq;rw[iq]at X6 jv;obtain⟨n4,iw⟩:=zg c.wls.length;have nG:=zh iw;rw[iw]at W6 jw;rw[aT.o]at S6 bV SE;obtain⟨n2,iy⟩:=zg c.pth.length;have jM:=zh iy;rw[iy]at P6 jr PE;clear iy;clear gZ ig dm iq iw
 have EQ:Hid (∀W,Below w6.heap.size w6 W→_):=zh (fun W hW=>Jh (enters_of Tryz.func116 (by kernel_rfl) rfl) (lb:= #[]) (fun i=>decide ((c.bxs.getD i bx0).n=(nd.getD i (0,0)).2)&&decide ((c.bxs.getD i bx0).l=(nd.getD i (0,0)).1)) n3 nl (fun i=>bxC (c.bxs.getD i bx0) (us i)) (fun i=>bxN (nd.getD i (0,0))) (.slice ba n3 bk) (.slice ua nl uc) W (X6.below hW)
  (by have h:=(O6.below hW).at' ((0,0):Int×Int) (by decide) (by decide) (by rw[ik.o];have :=eQ.o;omega);rwa[ik.o]at h) (by have :=CF.2.2.1;have :=jL.o;omega) (by have :=eQ.o;omega) (fun i j=>by unfold bxC;split<;>rfl) (fun i j=>by unfold bxN;split<;>rfl) (fun i W' _ _ _=>MO _ _ _ _ _ _ W' rfl rfl rfl rfl))
 obtain⟨r,hr⟩:=zg (eqF (fun i=>decide ((c.bxs.getD i bx0).n=(nd.getD i (0,0)).2)&&decide ((c.bxs.getD i bx0).l=(nd.getD i (0,0)).1)) n3 nl)
 have ER:Hid (r=true→n3=nl∧∀i,i < n3→(c.bxs.getD i bx0).n=(nd.getD i (0,0)).2∧(c.bxs.getD i bx0).l=(nd.getD i (0,0)).1):=zh (fun h=>by
  obtain⟨h1,h2⟩:=Em (hr.trans h);refine⟨h1,fun i hi=>?_⟩;have h3:=h2 i hi;rw[Bool.and_eq_true,decide_eq_true_eq,decide_eq_true_eq]at h3
  exact h3)
 rw[hr]at EQ;clear hr;have eU:=zh C6.lt;go_upto_region 13 with fail
 have WL:Hid (∀W,Below w6.heap.size w6 W→Calls Tryz.prog 120 #[.int .i64 au,.slice ca n1 ck] W fun e w'=>WelO W w' au c.chs e):=zh (fun W hW=>by
  have h:=Ff au c.chs ca ck W (by rw[aT.o];exact S6.below hW) (by have :=CF.1;omega)
  rwa[aT.o]at h)
 have jO:Hid (∀W,Below w6.heap.size w6 W→aN 3 W (.slice wa n4 wk) n4 (fun i=>wlC (c.wls.getD i wl0) (jq i))):=zh (fun W hW=>W6.below hW);clear O6 X6 W6;refine Tc.aA (keep w6.heap.size) 17 [] (.fl 0 (.fl 1 (.fl 2 (.fl 3 (.one 4 (.fl 5 (.fl 6 (.fl 7 (.fl 8 (.fl 9 (.fl 10 (.fl 11 (.fl 12 (.fl 14 (.one 13 (.one 15 (.fl 16 .done))))))))))))))))) (by kernel_rfl) (by kernel_rfl) ?_;intro w7 b7 e7;have dL:Hid (Below w6.heap.size w6 w7):=zh b7;clear b7 e7;refine Tc.aj [0,1,2,3] [_,_,_,_] rfl ?_;dsimp only[zx,zy,zz];(repeat(go_big_quiet_step(exact fun _=>rfl)));refine zC w1.heap.size 37 rfl zC68 (.slice ba n3 bk) (fun W hW=>aQ (n:=w6.heap.size) (by rw[←jv.o];exact(C6.below dL.o).cell (i:=37) (by decide)) (eU.o) hW) ?_;simp only[Act.put,zu];(repeat(go_big_quiet_step(exact fun _=>rfl)));refine wpQuiet_nil ?_;refine Tc.ae 4 rfl (fun K hK=>?_);go_wp2_with fail;refine(EQ.o _ dL.o).mono ?_
 rintro e w8 ⟨rfl,b8⟩;have bb:=b8.mono dL.size;have bz:=zh (dL.trans bb);go_wp2_with fail;refine hK _ _ (az bb) ?_;clear hK K bb b8 dL;clear EQ
 cases r with
 | false=>
   refine Tc.aj [5,6,7,8,9,10,11,12,14] [_,_,_,_,_,_,_,_,_] rfl ?_;dsimp only[zx,zy,zz];(repeat(go_big_quiet_step(exact fun _=>rfl)));refine wpQuiet_nil ?_;refine Tc.ae 13 rfl (fun K hK=>?_);refine dD rfl ?_;refine hK _ _ (az (Yb _ _)) ?_;clear hK K;(try dsimp only[Act.put]);refine Tc.ae 15 rfl (fun K hK=>?_);refine dD rfl ?_;refine hK _ _ (az (Yb _ _)) ?_;clear hK K;(try dsimp only[Act.put]);refine Tc.aj [16] [_] rfl ?_;dsimp only[zx,zy,zz];(try simp only[List.setIfInBounds_toArray,List.set_cons_succ,List.set_cons_zero]);(repeat(go_big_quiet_step(exact fun _=>rfl)));refine wpQuiet_nil ?_;refine Tc.aF (l:=[_]) rfl (fun K hK=>?_);have Y8:=zh (Y6.below bz.o);have B8:=zD B6 bz.o;go_wp2_with(with_reducible refine zS 75 ?_);refine zh (zL Y8 rfl YO ?_);go_wp2_with(with_reducible refine zn ?_);refine zh (zV Y8 rfl (gpC (g00 0) gv0) rfl YO (fun j _=>dI _ _ j) ?_);intro wz Zz oz;go_wp2_with fail
   refine bodyPost_ret (v:=.tuple #[.agg (ah 36 (gpC (g00 0) gv0)),.int .i64 220]) (by exact zb (u:=5) Zz rfl rfl YO) rfl ?_;exact NxO.no (B8.trans (oz.below LY.o B8.size)) (by decide)
 | true=>
 refine Tc.aj [5,6,7,8,9,10,11,12,14] [_,_,_,_,_,_,_,_,_] rfl ?_;dsimp only[zx,zy,zz];(repeat(go_big_quiet_step(exact fun _=>rfl)));refine aY rfl ?_;(repeat(go_big_quiet_step(exact fun _=>rfl)));refine zC w1.heap.size 38 rfl zC69 (.slice wa n4 wk) (fun W hW=>aQ (n:=w6.heap.size) (by rw[←jw.o];exact(C6.below bz.o).cell (i:=38) (by decide)) (eU.o) hW) ?_;simp only[Act.put,zu];(repeat(go_big_quiet_step(exact fun _=>rfl)));refine aY rfl ?_;(repeat(go_big_quiet_step(exact fun _=>rfl)));refine zC w1.heap.size 34 rfl zC3 (.int .i64 au) (fun W hW=>aQ (n:=w6.heap.size) (by rw[←di.o];exact(C6.below bz.o).cell (i:=34) (by decide)) (eU.o) hW) ?_;simp only[Act.put,zu];(repeat(go_big_quiet_step(exact fun _=>rfl)));refine aY rfl ?_;repeat(go_big_quiet_step(exact fun _=>rfl))
 refine zC w1.heap.size 35 rfl Zi (.slice ca n1 ck) (fun W hW=>aQ (n:=w6.heap.size) (by rw[←bV.o];exact(C6.below bz.o).cell (i:=35) (by decide)) (eU.o) hW) ?_;simp only[Act.put,zu];(repeat(go_big_quiet_step(exact fun _=>rfl)));refine wpQuiet_nil ?_;refine Tc.ae 13 rfl (fun K hK=>?_);go_wp2_with fail;refine(WL.o _ bz.o).mono ?_;rintro e w9 ⟨u,l2,rfl,ho,hp,bq⟩;have bb:=bq.mono bz.size;have eX:=zh (bz.trans bb);have iC:Hid (l2.length≤1000000):=zh (by have h1:=hp.length_eq;have h2:=List.length_filter_le (fun x=> !sO au x) c.chs;have :=CF.1;omega)
 have EW:=zh (uX (enters_of Tryz.func117 (by kernel_rfl) rfl) (lb:= #[]) (fun i=>decide ((c.wls.getD i wl0).d=(l2.getD i ch0).d)) n4 l2.length (fun i=>wlC (c.wls.getD i wl0) (jq i)) (fun i=>chC (l2.getD i ch0)) (.slice wa n4 wk) u w9 (jO.o _ eX.o) (ho.at' ch0 (by decide) (by decide) iC.o) (by have :=CF.2.2.2.1;have :=nG.o;omega) iC.o (fun i j=>by unfold wlC;split<;>rfl) (fun i j=>rfl) (fun i W' _ _ _=>N9 _ _ _ _ W' rfl rfl));obtain⟨r2,jQ⟩:=zg (eqF (fun i=>decide ((c.wls.getD i wl0).d=(l2.getD i ch0).d)) n4 l2.length);rw[jQ]at EW;obtain⟨xa,xk,rfl⟩:=ho.slice;obtain⟨nx,bP⟩:=zg l2.length;rw[bP]at EW ⊢;clear jQ ho hp bP iC WL jO;go_wp2_with fail;refine hK _ _ (az bb) ?_;clear hK K bb bq bz;refine Tc.ae 15 rfl (fun K hK=>?_);go_wp2_with fail;refine(EW.o).mono ?_;rintro e nH ⟨rfl,jR⟩;have bb:=jR.mono eX.size;have ai:=zh (eX.trans bb);go_wp2_with fail;refine hK _ _ (az bb) ?_;clear hK K bb jR eX
 clear EW;refine Tc.aj [16] [_] rfl ?_;dsimp only[zx,zy,zz];(repeat(go_big_quiet_step(exact fun _=>rfl)));refine wpQuiet_nil ?_;refine Tc.aF (l:=[_]) rfl (fun K hK=>?_);have jS:=zh (T6.below ai.o);have jT:=zh (M6.below ai.o);have jU:=zh (R6.below ai.o);have jV:=zh (K6.below ai.o);have jW:=zh (S6.below ai.o);have jY:=zh (P6.below ai.o);have jZ:=zh (G6.below ai.o);have ku:=zh (C6.below ai.o);have fA:=zh (Y6.below ai.o);have fB:=zD B6 ai.o;clear ai B6 T6 M6 R6 K6 S6 P6 G6 C6 Y6
 cases r2 with
 | false=>
   (try dsimp only[Act.put]);(try simp only[List.setIfInBounds_toArray,List.set_cons_succ,List.set_cons_zero]);go_wp2_with(with_reducible refine zS 75 ?_);refine zh (zL fA rfl YO ?_);go_wp2_with(with_reducible refine zn ?_);refine zh (zV fA rfl (gpC (g00 0) gv0) rfl YO (fun j _=>dI _ _ j) ?_);intro wz Zz oz;go_wp2_with fail;refine bodyPost_ret (v:=.tuple #[.agg (ah 36 (gpC (g00 0) gv0)),.int .i64 220]) (by exact zb (u:=5) Zz rfl rfl YO) rfl ?_;exact NxO.no (fB.trans (oz.below LY.o fB.size)) (by decide)
 | true=>
 (try dsimp only[Act.put]);(try simp only[List.setIfInBounds_toArray,List.set_cons_succ,List.set_cons_zero]);obtain⟨aS,rfl⟩:=zG nH;have fD:=jS;have iD:=jT;have kz:=jU;have iE:=jV;have iF:=jW;have kC:=jY;have fE:=jZ;have C40:=ku;have kD:=fA;have kE:=fB;clear jS jT jU jV jW jY jZ ku fA fB;have RT:=zh (ER.o trivial);clear ER
 have h0':Hid (iY g.mem au=false→0 < c.chs.length):=zh (fun h=>nz.o (by
  have h1:=ny.o;rw[h]at h1;have h2:=of_decide_eq_false h1.symm;have h3:=EE.o;have h4:=eu.2.1
  omega))
 have bC:=zh C40.lt;have iG:=zh fE.lt;obtain⟨vk,kF⟩:=zg (vkey g.mem c.chs au)
 have VK:Hid (∀W,Below aS.heap.size aS W→Calls Tryz.prog 121 #[.agg (ah 36 (gpC g v)),.int .i64 au,.slice ca n1 ck] W (zr (.int .i64 vk) W)):=zh (fun W hW=>by
  have h:=Fp g v au c.chs ca ck W (iD.below hW) ML.o (by rw[aT.o];exact iF.below hW) h0'.o
  rwa[aT.o,kF]at h)
 have MG:Hid (∀W,Below aS.heap.size aS W→Calls Tryz.prog 122 #[.agg (ah 73 (cmC c cv))] W fun e w'=>(∃u,e=.returned u∧BytesAt w' u (wR c))∧Below W.heap.size W w'):=zh (fun W hW=>Tf c cv W (fD.below hW) (iE.below hW) CI.o CF.o);clear kF h0';go_upto_region 15 with fail;refine Tc.aA (keep aS.heap.size) 11 [] (.fl 0 (.fl 1 (.fl 2 (.fl 3 (.fl 4 (.fl 6 (.fl 8 (.fl 9 (.one 5 (.one 7 (.one 10 .done))))))))))) (by kernel_rfl) (by kernel_rfl) ?_;intro nI kG nJ;have ay:Hid (Below aS.heap.size aS nI):=zh kG;clear kG nJ;refine Tc.aj [0,1,2,3,4,6,8,9] [_,_,_,_,_,_,_,_] rfl ?_;dsimp only[zx,zy,zz];(repeat(go_big_quiet_step(exact fun _=>rfl)));refine zq w.heap.size 0 rfl 36 YO (gpC g v) (gpC g v) (fun W hW=>bG (n:=aS.heap.size) ((fE.o).below ay.o) (iG.o) hW) (by decide) (fun j _=>by rw[Yl]) ?_;simp only[Act.put,zu];repeat(go_big_quiet_step(exact fun _=>rfl))
 refine zC w1.heap.size 34 rfl zC3 (.int .i64 au) (fun W hW=>aQ (n:=aS.heap.size) (by rw[←di.o];exact(C40.below ay.o).cell (i:=34) (by decide)) (bC.o) hW) ?_;simp only[Act.put,zu];(repeat(go_big_quiet_step(exact fun _=>rfl)));refine zC w1.heap.size 35 rfl Zi (.slice ca n1 ck) (fun W hW=>aQ (n:=aS.heap.size) (by rw[←bV.o];exact(C40.below ay.o).cell (i:=35) (by decide)) (bC.o) hW) ?_;simp only[Act.put,zu];(repeat(go_big_quiet_step(exact fun _=>rfl)));refine zq w1.heap.size 0 rfl 73 YU (cmC c cv) (cmC c cv) (fun W hW=>bG (n:=aS.heap.size) ((C40.o).below ay.o) (bC.o) hW) (by decide) (fun j _=>by rw[Yl]) ?_;simp only[Act.put,zu];(repeat(go_big_quiet_step(exact fun _=>rfl)));refine zq w1.heap.size 71 rfl 73 zU59 (cmC c cv) (fun j=>if j=0 then .int .i64 c.r else .int .i64 c.g) (fun W hW=>bG (n:=aS.heap.size) (C40.below ay.o) bC.o hW) (by decide) (fun j hj=>by match j,hj with | 0,_=>rfl | 1,_=>rfl) ?_
 simp only[Act.put,zu];(repeat(go_big_quiet_step(exact fun _=>rfl)));refine wpQuiet_nil ?_;refine Tc.ae 5 rfl (fun K hK=>?_);go_wp2_with fail;refine(VK.o _ ay.o).mono ?_;rintro e oQ ⟨rfl,kH⟩;have bb:=kH.mono ay.size;have bD:=zh (ay.trans bb);go_wp2_with fail;refine hK _ _ (az bb) ?_;clear hK K bb kH ay;refine Tc.ae 7 rfl (fun K hK=>?_);go_wp2_with fail;refine(MG.o _ bD.o).mono ?_;rintro e nK ⟨⟨u,rfl,hu⟩,bq⟩;have bb:=bq.mono bD.size;have bF:=zh (bD.trans bb);have VF:=zh (Gm vk c.r c.g u (wR c) nK (by rw[x8];decide) hu (fD.below bF.o));obtain⟨r3,kJ⟩:=zg (Je vk (wR c) c.r c.g);rw[kJ]at VF;obtain⟨xa,xk,rfl⟩:=hu.slice;obtain⟨nx,bP⟩:=zg ((wR c).length);rw[bP]at VF ⊢;clear kJ hu bP MG VK;go_wp2_with fail;refine hK _ _ (az bb) ?_;clear hK K bb bq bD;refine Tc.ae 10 rfl (fun K hK=>?_);go_wp2_with fail;refine(VF.o).mono ?_;rintro e nM ⟨rfl,kK⟩;have bb:=kK.mono bF.size;have ak:=zh (bF.trans bb)
 go_wp2_with fail;refine hK _ _ (az bb) ?_;clear hK K bb kK bF;clear VF;refine Tc.aF (l:=[_]) rfl (fun K hK=>?_);have kL:=zh (fD.below ak.o);have kN:=zh (iD.below ak.o);have kP:=zh (kz.below ak.o);have kQ:=zh (iE.below ak.o);have kR:=zh (iF.below ak.o);have kS:=zh (kC.below ak.o);have kT:=zh (fE.below ak.o);have kU:=zh (C40.below ak.o);have fF:=zh (kD.below ak.o);have fG:=zD kE ak.o;clear ak kE fD iD kz iE iF kC fE C40 kD
 cases r3 with
 | false=>
   (try dsimp only[Act.put]);(try simp only[List.setIfInBounds_toArray,List.set_cons_succ,List.set_cons_zero]);go_wp2_with(with_reducible refine zS 88 ?_);refine zh (zL fF rfl YO ?_);go_wp2_with(with_reducible refine zn ?_);refine zh (zV fF rfl (gpC (g00 0) gv0) rfl YO (fun j _=>dI _ _ j) ?_);intro wz Zz oz;go_wp2_with fail;refine bodyPost_ret (v:=.tuple #[.agg (ah 36 (gpC (g00 0) gv0)),.int .i64 222]) (by exact zb (u:=5) Zz rfl rfl YO) rfl ?_;exact NxO.no (fG.trans (oz.below LY.o fG.size)) (by decide)
 | true=>
 (try dsimp only[Act.put]);(try simp only[List.setIfInBounds_toArray,List.set_cons_succ,List.set_cons_zero]);obtain⟨bT,rfl⟩:=zG nM;have kV:=kL;have nN:=kN;have nO:=kP;have kW:=kQ;have nP:=kR;have nR:=kS;have fH:=kT;have dM:=kU;have kX:=fF;have kY:=fG;clear kL kN kP kQ kR kS kT kU fF fG;have dN:=zh dM.lt;have iH:=zh fH.lt;obtain⟨aH,iI⟩:=zg (aV c);have kZ:=zh iI
 have lg:Hid (∀W,Below bT.heap.size bT W→Calls Tryz.prog 14 #[.agg (ah 73 (cmC c cv))] W (zr (dgA aH) W)):=zh (fun W hW=>by
  have h:=uH c cv W (kV.below hW) (kW.below hW) CI.o CF.o
  rwa[iI]at h)
 clear iI;go_upto_region 17 with fail;refine Tc.aA (keep bT.heap.size) 6 [] (.fl 0 (.fl 1 (.fl 2 (.fl 3 (.fl 4 (.one 5 .done)))))) (by kernel_rfl) (by kernel_rfl) ?_;intro nS lh nT;have aJ:Hid (Below bT.heap.size bT nS):=zh lh;clear lh nT;refine Tc.aj [0,1,2,3,4] [_,_,_,_,_] rfl ?_;dsimp only[zx,zy,zz];(repeat(go_big_quiet_step(exact fun _=>rfl)));refine zC w.heap.size 0 rfl zC3 (.int .i64 g.f) (fun W hW=>aQ (n:=bT.heap.size) ((fH.below aJ.o).cell (i:=0) (by decide)) (iH.o) hW) ?_;simp only[Act.put,zu];(repeat(go_big_quiet_step(exact fun _=>rfl)));refine zC w1.heap.size 1 rfl zC3 (.int .i64 c.e) (fun W hW=>aQ (n:=bT.heap.size) ((dM.below aJ.o).cell (i:=1) (by decide)) (dN.o) hW) ?_;simp only[Act.put,zu];repeat(go_big_quiet_step(exact fun _=>rfl))
 refine zq w1.heap.size 0 rfl 73 YU (cmC c cv) (cmC c cv) (fun W hW=>bG (n:=bT.heap.size) ((dM.o).below aJ.o) (dN.o) hW) (by decide) (fun j _=>by rw[Yl]) ?_;simp only[Act.put,zu];(repeat(go_big_quiet_step(exact fun _=>rfl)));refine wpQuiet_nil ?_;refine Tc.ae 5 rfl (fun K hK=>?_);go_wp2_with fail;refine(lg.o _ aJ.o).mono ?_;rintro e oU ⟨rfl,lq⟩;have bb:=lq.mono aJ.size;have aW:=zh (aJ.trans bb);go_wp2_with fail;refine hK _ _ (az bb) ?_;clear hK K bb lq aJ;clear lg;refine Tc.aF (l:=[_,_]) rfl (fun K hK=>?_);have lu:=zh (fH.below aW.o);have lC:=zh (dM.below aW.o);have lD:=zh (kX.below aW.o);have iJ:=zD kY aW.o;clear aW kY kV nN nO kW nP nR fH dM kX;go_wp2_with(with_reducible refine zS 95 ?_);refine zh ?_;refine wpList_build rfl 51 _ rfl (JW g.f c.e aH) (by simp only[List.map_toArray,Yw,List.map_nil];rfl) _ (Tq g.f c.e aH _) ?_;go_wp2_with(with_reducible refine zn ?_)
 refine zh (zV lD rfl (gpC ⟨g.f,c.e,aH,[],[]⟩ gv0) rfl YO (fun j _=>dI _ _ j) ?_);intro bf iK fJ;have bU:=zh (iJ.trans (fJ.below LY.o iJ.size));have fK:=zh (fJ.row (by have :=LX.o;have :=LW.o;omega) lu.o);have dn:=zh (fJ.row (Nat.ne_of_lt LX.o) lC.o);have lF:=zh (TE.below bU.o);have lG:=zh (ME.below bU.o);have iL:=zh (RE.below bU.o);have lH:=zh (KE.below bU.o);have iM:=zh (SE.below bU.o);have iO:=zh (PE.below bU.o);clear fJ lu lC lD iJ;have bY:=zh dn.lt;have iP:=zh fK.lt
 have RN:Hid (∀W,Below bf.heap.size bf W→Calls Tryz.prog 124 #[.agg (ah 36 (gpC g v)),.slice ca n1 ck] W fun e w'=>RenO W w' tr e):=zh (fun W hW=>by
  have h:=sZ g v c.chs ca ck W (iL.below hW) GW.tr (by rw[aT.o];exact iM.below hW) (by have :=CF.1;omega)
  rwa[aT.o,dK.o]at h)
 have TW:Hid (TrW tr):=zh (by rw[←dK.o];exact Lm GW.tr c.chs)
 have KW:Hid (∀hd W,eY W hd tr→Below bf.heap.size bf W→Calls Tryz.prog 123 #[trA hd,.int .i64 au,.slice pa n2 pk] W fun e w'=>RnwO W w' tr au c.pth (jH okT tr au true) e):=zh (fun hd W ht hW=>by
  have h:=He tr hd au c.pth pa pk W ht TW.o (by rw[jM.o];exact iO.below hW) (by have :=CF.2.1;omega)
  rwa[jM.o]at h)
 go_upto_region 18 with fail;refine Tc.aA (keep bf.heap.size) 14 [13] (.fl 0 (.fl 1 (.fl 2 (.fl 4 (.fl 5 (.fl 6 (.fl 7 (.one 3 (.one 8 (.fp 9 (.fp 10 (.fp 11 (.fl 12 (.st 13 .done)))))))))))))) (by kernel_rfl) (by kernel_rfl) ?_;intro nU lI nV;have aC:Hid (Below bf.heap.size bf nU):=zh lI;clear lI nV;refine Tc.aj [0,1,2,4,5,6,7] [_,_,_,_,_,_,_] rfl ?_;dsimp only[zx,zy,zz];(repeat(go_big_quiet_step(exact fun _=>rfl)));refine zq w.heap.size 0 rfl 36 YO (gpC g v) (gpC g v) (fun W hW=>bG (n:=bf.heap.size) ((fK.o).below aC.o) (iP.o) hW) (by decide) (fun j _=>by rw[Yl]) ?_;simp only[Act.put,zu];(repeat(go_big_quiet_step(exact fun _=>rfl)));refine zC w1.heap.size 35 rfl Zi (.slice ca n1 ck) (fun W hW=>aQ (n:=bf.heap.size) (by rw[←bV.o];exact(dn.below aC.o).cell (i:=35) (by decide)) (bY.o) hW) ?_;simp only[Act.put,zu];repeat(go_big_quiet_step(exact fun _=>rfl))
 refine zC w1.heap.size 34 rfl zC3 (.int .i64 au) (fun W hW=>aQ (n:=bf.heap.size) (by rw[←di.o];exact(dn.below aC.o).cell (i:=34) (by decide)) (bY.o) hW) ?_;simp only[Act.put,zu];(repeat(go_big_quiet_step(exact fun _=>rfl)));refine zC w1.heap.size 36 rfl Za (.slice pa n2 pk) (fun W hW=>aQ (n:=bf.heap.size) (by rw[←jr.o];exact(dn.below aC.o).cell (i:=36) (by decide)) (bY.o) hW) ?_;simp only[Act.put,zu];(repeat(go_big_quiet_step(exact fun _=>rfl)));refine wpQuiet_nil ?_;refine Tc.ae 3 rfl (fun K hK=>?_);go_wp2_with fail;refine(RN.o _ aC.o).mono ?_;rintro e nX ⟨hd,rfl,ht,bq⟩;have bb:=bq.mono aC.size;have bI:=zh (aC.trans bb);have KR:=zh (KW.o hd nX ht bI.o);clear ht RN KW;go_wp2_with fail;refine hK _ _ (az bb) ?_;clear hK K bb bq aC;refine Tc.ae 8 rfl (fun K hK=>?_);go_wp2_with fail;refine KR.mono ?_;rintro e nY ⟨aP,z,T2,rfl,lJ,bq,hz⟩;have bb:=bq.mono bI.size;have af:=zh (bI.trans bb)
 have lK:=zh lJ;have HZ:=zh hz;clear lJ hz KR;go_wp2_with fail;refine hK _ _ (az bb) ?_;clear hK K bb bq bI;refine Tc.aZ [9,10,11] [_,_,_] rfl ?_;dsimp only[zx,zy,zz];(repeat(go_big_quiet_step(exact fun _=>rfl)));refine wpQuiet_nil ?_;refine Tc.aj [12] [_] rfl ?_;dsimp only[zx,zy,zz];(repeat(go_big_quiet_step(exact fun _=>rfl)));refine wpQuiet_nil ?_;have dw:=zh (iK.below af.o);refine Tc.jb 13 rfl (fun K hK=>?_);refine fC rfl 49 (.tmp 108) (.tmp 106) rfl w2.heap.size 35 rfl 36 1 51 (gpC ⟨g.f,c.e,aH,[],[]⟩ gv0) (fun _=>aP.v) (gpC ⟨g.f,c.e,aH,[],T2⟩ ⟨hd0,aP⟩) rfl dw.o (by decide) (by kernel_rfl) (fun _ _=>rfl) (fun i hi=>WT g.f c.e aH [] T2 hd0 aP i hi) ?_;intro bg dO dP;refine(show wpList _ _ _ [] _ _ from hK _ _ ?_);clear hK K dw;refine Tc.aF (l:=[_]) rfl (fun K hK=>?_);have lL:=zh (lF.below af.o);have lM:=zh (lG.below af.o);have lN:=zh (iL.below af.o);have lQ:=zh (lH.below af.o)
 have lS:=zh (iM.below af.o);have lU:=zh (iO.below af.o);have lV:=zh (fK.below af.o);have lW:=zh (dn.below af.o);have dw:=zh (iK.below af.o);have lX:=zD bU af.o;clear af bU lF lG iL lH iM iO fK dn iK;have lY:=zh (ax.aB lK.o dw.o (by decide) dP.o);obtain⟨oV,rfl⟩:=zG nY;have nZ:=lL;have og:=lM;have oh:=lN;have oq:=lQ;have ou:=lS;have oC:=lU;have lZ:=lV;have C69:=lW;have oD:=dw;have iQ:=lX;clear lK lL lM lN lQ lS lU lV lW dw lX;have bZ:=zh (iQ.trans (dP.below LY.o iQ.size));have fM:=zh (dP.row (by have :=LX.o;have :=LW.o;omega) lZ.o);have dQ:=zh (dP.row (Nat.ne_of_lt LX.o) C69.o);clear dP nZ og oh oq ou oC lZ C69 oD iQ;by_cases h0:z=0;rotate_left
 · have d0:(z !=0)=true:=(by rw[bne_iff_ne];exact h0);have H0:=zh h0;clear h0;go_wp2_with(with_reducible refine zS 111 ?_);refine zh (wpList_build rfl 51 #[] rfl #[] (by simp) _ (Na _) ?_);go_wp2_with(with_reducible refine zn ?_);refine zh (zV dO rfl (gpC (g00 0) gv0) rfl YO (fun j _=>dI _ _ j) ?_);intro wz Zz oz;go_wp2_with fail;refine bodyPost_ret (v:=.tuple #[.agg (ah 36 (gpC (g00 0) gv0)),.int .i64 z]) (by exact zb (u:=5) Zz rfl rfl YO) rfl ?_;exact NxO.no (bZ.trans (oz.below LY.o bZ.size)) H0.o
 subst h0;have RZ:=zh (HZ.o rfl);clear HZ;have oW:=zM Tryz.prog;have d0:((0:Int)!=0)=false:=rfl;obtain⟨ga,gk,fO⟩:=ax.slice ME.o;obtain⟨gm,bJ⟩:=zg g.mem.length;have oG:=zh bJ;rw[bJ]at fO;have oH:=zh fO;have eF:bg.cell? ⟨w.heap.size,34,none⟩=some (.slice ga gm gk):=by rw[←fO];exact fM.cell (i:=34) (by decide)
 have CL:=zh (tK (c:=meC) me0 (fun _ _=>rfl) g.mem ga gk bg (by
  have h:=ax.at1 me0 (by decide) (by decide) (ME.below bZ.o) ML.o;rw[oH.o]at h;rw[oG.o]at h ⊢
  exact h) ML.o)
 rw[bJ]at CL;clear fO bJ;go_wp2_with fail;refine CL.mono ?_;rintro e oI ⟨u,rfl,hu,l7⟩;have U71:=zh hu
 have DF:=zh (wW (c:=meC) me0 (fun _ _=>rfl) (enters_of Tryz.func125 (by kernel_rfl) rfl) (lb:= #[.pointer (some ⟨w1.heap.size,0,none⟩)]) (fun W=>Below bg.heap.size bg W) (Am c) g.mem bg.heap.size u oI hu ML.o l7 (fun W W' j b=>j.trans (b.mono j.size))
  (fun b W W' hb j o=>j.trans (o.below ((U71.lt b hb).1) j.size)) (fun x W _ j=>Py c cv x w1.heap.size W (dQ.uP dQ.lt j) (by
    have h:=SE.below (bZ.trans (j.mono bZ.size));rw[bV.o,aT.o]
    exact h) (by have :=CF.1;omega)))
 obtain⟨xa,xk,rfl⟩:=hu.slice;obtain⟨nx,bP⟩:=zg g.mem.length;rw[bP]at DF ⊢;clear hu l7 CL eF bP U71;go_wp2_with fail;refine DF.mono ?_;rintro e dR ⟨u2,rfl,dS,cu, -⟩;obtain⟨ma,mk,rfl⟩:=dS.slice;obtain⟨l0,iR⟩:=zg ((g.mem.filter fun x=> !Am c x));have l9:=zh iR;rw[iR]at dS ⊢;obtain⟨nm,iT⟩:=zg l0.length;have oJ:=zh iT;rw[iT]at dS ⊢;have mf:=zh dS;have dA:=zh (dO.uP dO.lt cu);have mg:=zh (fM.uP fM.lt cu);have mi:=zh (dQ.uP dQ.lt cu);have mr:=zh (lY.below cu);have iU:=zD bZ cu;have dU:=zh (show w2.heap.size < bg.heap.size from dO.lt);have mD:=zh cu.size;clear dS cu DF iR iT fM dQ dO lY bZ;have xy:dR.cell? ⟨w2.heap.size,34,none⟩=some (.slice none 0 0):=dA.cell (i:=34) (by decide);have fy:=dA.frozen 34;go_upto_region 23 with fail;clear xy fy;have ob:=(aG.refl w2.heap.size dR).setCell (p:=⟨w2.heap.size,34,none⟩) (.inl rfl) (.slice ma nm mk)
 have iV:Hid (ag (dR.setCell ⟨w2.heap.size,34,none⟩ (.slice ma nm mk)) w2.heap.size 51 36 (gpC ⟨g.f,c.e,aH,l0,T2⟩ ⟨⟨ma,nm,mk⟩,aP⟩)):=zh ((dA.set 34 _).congr (fun i hi=>TR g.f c.e aH [] l0 T2 hd0 ⟨ma,nm,mk⟩ aP i hi));have iW:=zh (ax.aB mf.o dA.o (by decide) ob);have iZ:=zh (ax.aB mr.o dA.o (by decide) ob);have oK:=zh (ob.row (by have :=LX.o;have :=LW.o;omega) mg.o);have ja:=zh (ob.row (Nat.ne_of_lt LX.o) mi.o);have mF:=zh (iU.trans (ob.below LY.o iU.size));have fP:=zh (show bg.heap.size≤(dR.setCell ⟨w2.heap.size,34,none⟩ (.slice ma nm mk)).heap.size from Yc mD.o ob.size);obtain⟨jc,dW⟩:=zg (dR.setCell ⟨w2.heap.size,34,none⟩ (.slice ma nm mk));rw[dW]at iV iW iZ oK ja mF fP ⊢;clear ob dW dA mf mr mg mi iU mD;have eG:jc.cell? ⟨w1.heap.size,35,none⟩=some (.slice ca n1 ck):=(by rw[←bV.o];exact ja.cell (i:=35) (by decide));go_wp2_with fail;clear eG
 go_loopg [123] n1 (fun g' jd wx=>∃(k:Nat) (l:List Me) (hm:Hd),k+g'=n1∧jd=.int .i64 (k:Int)∧Hid (l=l0++xH c k)∧Hid (ax 53 3 meC wx bg.heap.size hm.v l)∧Hid (ag wx w2.heap.size 51 36 (gpC ⟨g.f,c.e,aH,l,T2⟩ ⟨hm,aP⟩))∧Hid (eY wx aP T2)∧Hid (Below w2.heap.size jc wx));case atStart=>exact⟨0,l0,⟨ma,nm,mk⟩,by omega,rfl,zh (by simp[xH]),iW,iV,iZ,zh (Yb _ _)⟩
 case round=>
  clear iW iV iZ;obtain⟨k,l,⟨ma,nm,mk⟩,hk,rfl,hl,hO,hY,hH,hB⟩:=hrel;obtain⟨bn,rfl⟩:=zG wr;have q0:=Ye k;obtain rfl:nm=l.length:=by obtain⟨a,q,e⟩:=hO.slice;cases e;rfl
  have LL:Hid (l.length+1≤1000000):=zh (by
   have h1:=congrArg List.length hl.o;rw[Yf]at h1;have h2:=QP c k;have h3:=oJ.o;have h4:l0.length≤g.mem.length:=(by rw[←l9.o];exact List.length_filter_le _ _);have h5:=GW.ml;have h6:=CF.1
   omega)
  have cO:=hO;have dB:=hY;have fQ:=hH;have je:Hid (KpC w2.heap.size jc bn):=zh ⟨hB.o,Yc (Yc (Yv dU.o) fP.o) hB.size⟩;have oL:Hid (bg.heap.size≤bn.heap.size):=zh (Yc fP.o hB.size);have bK:=zh (mF.trans (hB.mono LY.o));have jf:=bK;clear hO hY hH hB;by_cases cZ:k < n1
  · obtain⟨d0,d1,-⟩:=zl cZ;have fU:=zh cZ;have fV:=zh hk;have qn:(n1:Int)≤100:=(by have h1:=aT.o;have h2:=CF.1;omega);have oZ:=zw  ((k:Int)+1) (by omega);have mG:k < c.chs.length:=(by rw[aT.o];exact cZ);obtain⟨b,off,rfl,jg,hb,mJ⟩:=aN.aI (SE.below bK.o) cZ;have jh:Hid (∀i,i < 5→bn.cell? ⟨b,off+5*k+i,none⟩=some (chC (c.chs.getD k ch0) i)):=zh (fun i hi=>mJ k cZ i hi);have AK:=zh (Md c mG);obtain⟨x,hx⟩:=zg (c.chs.getD k ch0);rw[hx]at jh AK;clear jg hb mJ cZ hx mG hk;go_upto_region 25 with fail;go_wp2_with(with_reducible refine zS 126 ?_);refine zh (zE b (off+k*5) rfl YV off k (by rw[Ym]) (chC x) jh.o ?_);clear jh d0 d1;have Zr:=zh (ag.new bn 75 5 (chC ch0));go_upto_region 26 with((with_reducible refine zN ?_);refine zV Zr rfl (chC x) rfl YV (fun _ _=>rfl) ?_;intro aK fZ mM);have dC:Below bn.heap.size bn aK:=zO mM;have dX:=zD jf dC;have dE:=zh (cO.below dC);have bu:=zh (dB.below dC)
    have dF:=zh (fQ.below dC);have dG:=zh (je.below dC);clear dC mM Zr jf cO dB fQ je;(try dsimp only[Act.put]);have c0:aK.cell? ⟨bn.heap.size,0,none⟩=some (.int .i64 x.k):=fZ.cell (i:=0) (by decide);have c1:aK.cell? ⟨bn.heap.size,1,none⟩=some (.int .i64 x.d):=fZ.cell (i:=1) (by decide);have c3:aK.cell? ⟨bn.heap.size,3,none⟩=some (.int .i64 x.v):=fZ.cell (i:=3) (by decide);have mO:Hid (bg.heap.size≤aK.heap.size):=zh (Yc fP.o dG.1.size);by_cases h2:x.k=2
    · have e0:(x.k !=2)=false:=(by simp[h2]);have HL:Hid (l=l0++xH c (k+1)):=zh (by rw[AK.o,if_pos h2,List.append_nil];exact hl.o);clear h2 c1 c3 AK;go_wp2_with fail;clear c0 e0;go_roundg(gk - 1);case measure=>have :=fU.o;have :=fV.o;omega
      case rel=>
       go_light;exact⟨k+1,l,⟨ma,l.length,mk⟩,by have :=fU.o;have :=fV.o;omega,by go_num,HL,dE,bu,dF,zh dG.1⟩
    · have e0:(x.k !=2)=true:=(by rw[bne_iff_ne];exact h2);have HL:Hid (l++[⟨x.d,c.e,x.v⟩]=l0++xH c (k+1)):=zh (by rw[AK.o,if_neg h2,←Xa];rw[←hl.o]);have dY:aK.cell? ⟨w2.heap.size,34,none⟩=some (.slice ma l.length mk):=bu.cell (i:=34) (by decide);have oM:aK.cell? ⟨w1.heap.size,1,none⟩=some (.int .i64 c.e):=(ja.uP LX.o dG.1).cell (i:=1) (by decide);clear h2 AK;go_wp2_with(with_reducible refine zS 140 ?_);refine zh ?_;have al:=(Yb _ aK).alloc (Ya _) (.cells #[.int .i64 x.d,.int .i64 c.e,.int .i64 x.v] 53);have ji:Hid (ag (aK.alloc (.cells #[.int .i64 x.d,.int .i64 c.e,.int .i64 x.v] 53)) aK.heap.size 53 3 (meC ⟨x.d,c.e,x.v⟩)):=zh (ag.new aK 53 3 (meC ⟨x.d,c.e,x.v⟩));have dH:=zh (dE.below al);have gp:=zh (bu.below al);have jk:=zh (dF.below al);have jl:=zh (dG.1.trans (al.mono dG.2));have gq:=zh (Yc mO.o al.size)
      obtain⟨o5,dZ⟩:=zg (aK.alloc (.cells #[.int .i64 x.d,.int .i64 c.e,.int .i64 x.v] 53));rw[dZ]at ji dH gp jk jl gq ⊢;clear al dZ dE bu dF dX dG mO fZ c0 c1 c3 e0 dY oM
      refine bH rfl (.tmp 131) (.tmp 139) Og Tryz.underlying46 rfl (by decide) (by decide) (fun u j=>rfl) me0 rfl bg.heap.size (.slice ma l.length mk) l rfl dH.o aK.heap.size 1 [⟨x.d,c.e,x.v⟩] rfl (fun i hi j hj=>by
       obtain rfl:i=0:=(by simp at hi;exact hi);rw[Nat.mul_zero,Yl]
       exact ji.cell hj) LL.o gq.o ?_
      intro o6 jm gu gy;have ed:∀q,Value.ownBlock (.slice ma l.length mk)=some q→q≠w2.heap.size:=bM (by decide) dH.o gp.o;have df:=zh (gy.row gp.o (fun e=>ed _ e rfl));have mP:=zh (ax.beside jk.o dH.o (by decide) gy.o);have mQ:=zh (jl.trans (aO gy.o (Yc (Yv dU.o) gq.o) (fun q hq=>Yc (Yv dU.o) (dH.lt q hq).1)));obtain⟨va,vc,rfl⟩:=gu.slice;obtain⟨l2,mV⟩:=zg (l++[⟨x.d,c.e,x.v⟩]);rw[mV]at gu HL ⊢;have dY:jm.cell? ⟨w2.heap.size,34,none⟩=some (.slice ma l.length mk):=df.cell (i:=34) (by decide);have fy:=df.frozen 34;have ob:=(aG.refl w2.heap.size jm).setCell (p:=⟨w2.heap.size,34,none⟩) (.inl rfl) (.slice va l2.length vc);have mW:Hid (ag (jm.setCell ⟨w2.heap.size,34,none⟩ (.slice va l2.length vc)) w2.heap.size 51 36 (gpC ⟨g.f,c.e,aH,l2,T2⟩ ⟨⟨va,l2.length,vc⟩,aP⟩)):=zh ((df.set 34 _).congr (fun i hi=>TR g.f c.e aH l l2 T2 ⟨ma,l.length,mk⟩ ⟨va,l2.length,vc⟩ aP i hi))
      have mX:=zh (ax.aB gu.o df.o (by decide) ob);have mY:=zh (ax.aB mP.o df.o (by decide) ob);have mZ:=zh (mQ.trans (ob.below (Ya _) (Yv df.lt)));clear gy ed ob dH gp jk jl gq ji df mP mQ gu mV;obtain⟨n9,ng⟩:=zg l2.length;rw[ng]at mX mW mY mZ ⊢;clear ng;go_wp2_with fail;clear dY fy;go_roundg(gk - 1);case measure=>have :=fU.o;have :=fV.o;omega
      case rel=>
       go_light;exact⟨k+1,l2,⟨va,n9,vc⟩,by have :=fU.o;have :=fV.o;omega,by go_num,HL,mX,mW,mY,mZ⟩
  · obtain rfl:k=n1:=(by omega);have d0:decide ((k:Int) < (k:Int))=false:=zT (by omega);have d1:decide (k < k)=false:=zT (by omega)
    have HL:Hid (l=Hy g c):=zh (by
     rw[hl.o,←l9.o];unfold Hy Dq xH
     rw[Yq (by rw[aT.o];exact Ya _)])
    have dY:bn.cell? ⟨w2.heap.size,34,none⟩=some (.slice ma l.length mk):=dB.cell (i:=34) (by decide);have SR:=zh (JB cO.o (Nat.le_of_succ_le LL.o));clear cZ hk q0 hl;go_wp2_with fail;clear d0 d1 dY;refine SR.mono ?_;rintro e aK ⟨rfl,l2,hp,hO,hs⟩;have jo:Hid (l2.Perm (Hy g c)):=zh (by rw[←HL.o];exact hp);have ed:∀q,Value.ownBlock (.slice ma l.length mk)=some q→q≠w2.heap.size:=bM (by decide) cO.o dB.o;have oN:l2.length=l.length:=hp.length_eq;have bu:Hid (ag aK w2.heap.size 51 36 (gpC ⟨g.f,c.e,aH,l2,T2⟩ ⟨⟨ma,l.length,mk⟩,aP⟩)):=zh ((hs.row dB.o (fun e=>ed _ e rfl)).congr (fun i _=>rfl));have dE:=zh hO;have dF:=zh (ax.beside fQ.o cO.o (by decide) hs);have dX:=zh (bK.trans (aO hs (Yc LY.o (Yc (Yv dU.o) oL.o)) (fun q hq=>Yc LY.o (Yc (Yv dU.o) (cO.lt q hq).1))))
    have oO:Hid (l2.length≤2000):=zh (by
     have h1:=jo.length_eq;unfold Hy at h1;rw[Yf]at h1;have h2:=Pj c;have h3:=List.length_filter_le (fun m=> !Am c m) g.mem;have h5:=nC.o;have h6:=CF.1
     omega)
    clear SR hp hO hs ed cO dB fQ bK jf je HL LL oN;go_wp2_with(with_reducible refine zS 146 ?_);refine zh (zL bu rfl YO ?_);go_wp2_with(with_reducible refine zn ?_);refine zh (zV bu rfl (gpC ⟨g.f,c.e,aH,l2,T2⟩ ⟨⟨ma,l.length,mk⟩,aP⟩) rfl YO (fun j _=>dI _ _ j) ?_);intro wz Zz oz;have OZ:=zh (ax.aB dE.o bu.o (by decide) oz.o);have HZ:=zh (ax.aB dF.o bu.o (by decide) oz.o);have BZ:=zh (dX.trans (oz.below LY.o dX.size));clear oz dE dF dX bu;go_wp2_with fail;refine bodyPost_ret (v:=.tuple #[.agg (ah 36 (gpC ⟨g.f,c.e,aH,l2,T2⟩ ⟨⟨ma,l.length,mk⟩,aP⟩)),.int .i64 0]) (by exact zb (u:=5) Zz rfl rfl YO) rfl ?_;obtain⟨h1,h2,h3,h4⟩:=RZ.o;obtain⟨R',hR'⟩:=Option.isSome_iff_exists.1 h1
    have oP:∀m∈l2,bQ m.d∧bQ m.s∧bQ m.v:=fun m hm=>by
     have h5:=jo.mem_iff.1 hm;rcases Yt.1 h5 with h6 | h6
     · exact GW.mem m (List.mem_filter.1 h6).1
     · unfold Dq at h6;obtain⟨y,hy,rfl⟩:=Yo.1 h6;have h7:=CI.chs y (List.mem_filter.1 hy).1;exact⟨h7.d,CI.e,h7.v⟩
    refine⟨⟨g.f,c.e,aH,l2,T2⟩,⟨⟨ma,l.length,mk⟩,aP⟩,0,rfl,BZ.o,⟨OZ.mono (Nat.zero_le _),HZ.o⟩,⟨GW.f,CI.e,by rw[←kZ.o];exact jP c,oP,oO.o,by rw[h4];exact renL_w TW.o h2 h3⟩,fun _=>?_⟩
    have NX:=nx_of (g:=g) (c:=c) (mem:=l2) (m:=R') EE.o (HF.trans ni.symm) PP.o eu.1 eu.2.2.2 (by
     rw[dK.o,di.o,nD.o,jL.o,ik.o]
     exact RT.o) (by rw[dK.o,di.o];exact hR') jo.o
    rw[dK.o,di.o,←h4,kZ.o]at NX;exact NX
theorem Ae(y:Int)(W:World):(Instr.build 37 #[(0,.int .i64 1),(1,.int .i64 y)]).run Tryz.prog W=.ok (scA (keyS y)) W:=by kernel_rfl
theorem Gz(d:Dg)(l:Int)(W:World):(Instr.build 37 #[(0,.int .i64 2),(2,.agg (ah 32 (dgC d))),(3,.int .i64 l)]).run Tryz.prog W=.ok (scA (bY d l)) W:=by kernel_rfl
theorem rZ(d:Dg)(W:World):(Instr.build 37 #[(0,.int .i64 3),(2,.agg (ah 32 (dgC d)))]).run Tryz.prog W=.ok (scA (bZ d)) W:=by kernel_rfl
theorem mQ(y:Int)(w:World):Calls Tryz.prog 40 #[.int .i64 y] w (zr (scA (keyS y)) w):=by
 obtain⟨R,hR⟩:=zg (keyS y);have BS:=zh (fun W=>Ae y W);rw[hR]at BS ⊢;clear hR;go_in;have B0:=zh (Yb w.heap.size w);go_upto_region 1 with fail;refine(show Code.wp _ _ _ _ (w.alloc (.cells (ah 35 (scC sc0)) 37))from ?_);obtain⟨w1,ae,b1,z1,S1⟩:=zW w 37 35 (scC sc0);rw[ae];(try rw[z1]);have B1:=zD B0 b1;clear b1 ae z1 B0;go_wp2_with(with_reducible refine zS 4 ?_);refine zh ?_;refine wpList_build rfl 37 _ rfl #[(0,.int .i64 1),(1,.int .i64 y)] (by simp only[List.map_toArray,Yw,List.map_nil];rfl) _ (BS.o _) ?_;go_wp2_with(with_reducible refine zn ?_);refine zh (zV S1 rfl (scC R) rfl YT (fun j _=>eG _ j) ?_);intro wz Zz oz;go_wp2_with fail;refine bodyPost_ret (v:=scA R) (by exact zB Zz rfl rfl YT) rfl ⟨rfl,?_⟩;exact B1.trans (oz.below (Ya _) B1.size)
theorem kV(d:Dg)(l:Int)(w:World):Calls Tryz.prog 42 #[.agg (ah 32 (dgC d)),.int .i64 l] w (zr (scA (bY d l)) w):=by
 obtain⟨R,hR⟩:=zg (bY d l);have BS:=zh (fun W=>Gz d l W);rw[hR]at BS ⊢;clear hR;go_in;have B0:=zh (Yb w.heap.size w);go_upto_region 1 with fail;obtain⟨w1,ae,b1,z1,D1⟩:=zW w 35 32 (dgC d);rw[ae];(try rw[z1]);have B1:=zD B0 b1;clear b1 ae z1 B0;have LW:=zh B1.size;refine(show Code.wp _ _ _ _ (w1.alloc (.cells (ah 35 (scC sc0)) 37))from ?_);obtain⟨w2,af,b2,z2,S2⟩:=zW w1 37 35 (scC sc0);rw[af];(try rw[z2]);have B2:=zD B1 b2;have D2:=zh (D1.below b2);clear b2 af z2 B1 D1;go_wp2_with(with_reducible refine zS 5 ?_);refine zh (zL D2 rfl YQ ?_);go_wp2_with(with_reducible refine zS 7 ?_);refine zh ?_;refine wpList_build rfl 37 _ rfl #[(0,.int .i64 2),(2,.agg (ah 32 (dgC d))),(3,.int .i64 l)] (by simp only[List.map_toArray,Yw,List.map_nil];rfl) _ (BS.o _) ?_;go_wp2_with(with_reducible refine zn ?_);refine zh (zV S2 rfl (scC R) rfl YT (fun j _=>eG _ j) ?_);intro wz Zz oz;go_wp2_with fail
 refine bodyPost_ret (v:=scA R) (by exact zB Zz rfl rfl YT) rfl ⟨rfl,?_⟩;exact B2.trans (oz.below LW.o B2.size)
theorem lH(d:Dg)(w:World):Calls Tryz.prog 54 #[.agg (ah 32 (dgC d))] w (zr (scA (bZ d)) w):=by
 obtain⟨R,hR⟩:=zg (bZ d);have BS:=zh (fun W=>rZ d W);rw[hR]at BS ⊢;clear hR;go_in;have B0:=zh (Yb w.heap.size w);go_upto_region 1 with fail;obtain⟨w1,ae,b1,z1,D1⟩:=zW w 35 32 (dgC d);rw[ae];(try rw[z1]);have B1:=zD B0 b1;clear b1 ae z1 B0;have LW:=zh B1.size;refine(show Code.wp _ _ _ _ (w1.alloc (.cells (ah 35 (scC sc0)) 37))from ?_);obtain⟨w2,af,b2,z2,S2⟩:=zW w1 37 35 (scC sc0);rw[af];(try rw[z2]);have B2:=zD B1 b2;have D2:=zh (D1.below b2);clear b2 af z2 B1 D1;go_wp2_with(with_reducible refine zS 3 ?_);refine zh (zL D2 rfl YQ ?_);go_wp2_with(with_reducible refine zS 4 ?_);refine zh ?_;refine wpList_build rfl 37 _ rfl #[(0,.int .i64 3),(2,.agg (ah 32 (dgC d)))] (by simp only[List.map_toArray,Yw,List.map_nil];rfl) _ (BS.o _) ?_;go_wp2_with(with_reducible refine zn ?_);refine zh (zV S2 rfl (scC R) rfl YT (fun j _=>eG _ j) ?_);intro wz Zz oz;go_wp2_with fail
 refine bodyPost_ret (v:=scA R) (by exact zB Zz rfl rfl YT) rfl ⟨rfl,?_⟩;exact B2.trans (oz.below LW.o B2.size)
end Go.Proofs.YtfddbnmfllgifaaGreatDoor
