/- Part of TopMembers. -/
import Derived.Test.YtfddbnmfllgifaaGreatDoorA47
import Derived.Test.YtfddbnmfllgifaaGreatDoorCards
set_option linter.unusedVariables false
set_option linter.unusedSimpArgs false
set_option maxHeartbeats 64000000
set_option maxRecDepth 100000
namespace Go.Proofs.YtfddbnmfllgifaaGreatDoor.topMembers
open Go.ChangeShapes Go.WideShapes Go.ChangeAt Go.RowKit
open Go.ChangeMaps (open_string shut_string)
open Cod Top
abbrev uZ:List (String×DataW Unit):=[("chartroom/digest.start",Rows.laid_chartroom_digest_start),("chartroom/digest.numbers",Rows.laid_chartroom_digest_numbers),("chartroom/grants.errGroup",Rows.laid_chartroom_grants_errGroup),("chartroom/grants.errMember",Rows.laid_chartroom_grants_errMember)]
theorem Nr(os:Os)(args:Array Value):laidMetH Tryz.prog uZ ((World.doorLaid Tryz.prog 57 os).forCall (fun _ _=>0) ⟨#[],args,[]⟩).memory:=
 laidMetH_of_parts3 (fuel:=8) (laidMet_of_run' 8 (by kernel_rfl) (by kernel_rfl)) (by kernel_rfl) (by kernel_rfl)
theorem Ar{W:World}(h:laidMetH Tryz.prog uZ W):Tab W:=by
 rw[MakeChecks.laidMetH_plain _ _ _ (by kernel_rfl)]at h;obtain⟨ps,⟨g0,t0,au,f0,p0,q0,ae,ah,ai,hd0,⟨g1,t1,ax,f1,p1,q1,af,aj,ak,ag,_,_⟩,_⟩,_,_⟩:=h;obtain rfl:=Yx (gS.symm.trans ae);obtain rfl:=Yx (gN.symm.trans af);obtain rfl:=Yx (tS.symm.trans ah);obtain rfl:=Yx (tN.symm.trans aj);rw[Qb]at hd0;rw[numsD]at ag;have e0:=Lib.cells_of_tab Tryz.underlying271 Tryz.underlying186 (by kernel_rfl) (by kernel_rfl) hd0;have e1:=Lib.cells_of_tab Tryz.underlying320 Tryz.underlying186 (by kernel_rfl) (by kernel_rfl) ag
 have c0:∀t,t < 8→W.cell? ⟨3,t,none⟩=some (vU (Sha.init.o t)):=by
  intro t ht;have h1:=World.var?_cell ae ai t;have h2:=Bh.2 t ht;have h3:t < qR.length:=(by rw[Bh.1];exact ht);rw[Yd,Yh h3]at h2;simp only[Option.getD_some]at h2;rw[h1,←Array.getElem?_toList,e0];simp[h3,h2,vU,U]
 have c1:∀t,t < 64→W.cell? ⟨4,t,none⟩=some (vU (Sha.K t)):=by
  intro t ht;have h1:=World.var?_cell af ak t;have h2:=Kz.2 t ht;have h3:t < yY.length:=(by rw[Kz.1];exact ht);rw[Yd,Yh h3]at h2;simp only[Option.getD_some]at h2;rw[h1,←Array.getElem?_toList,e1];simp[h3,h2,vU,U]
 exact⟨⟨iG (c1 0 (by decide)),c1⟩,⟨iG (c0 0 (by decide)),c0⟩⟩
structure Af(W:World)(rf:Nat→Value)(f o v:Hd)(fs:List Fo)(os:List Ow)(cl:List (Cm×CmV)):Prop where
 r0:rf 0=f.v
 r1:rf 1=o.v
 r2:rf 2=v.v
 fg:∀a∈fs,kP a
 fo:SlW 33 W f.v fs.length (fun i=>foC (fs.getD i fo0))
 og:∀a∈os,Au a
 ow:SlW 2 W o.v os.length (fun i=>owC (os.getD i ow0))
 cg:∀a∈cl,Ik W a
 cm:SlW 73 W v.v cl.length (fun i=>cmA (cl.getD i (cm0,cv0)))
theorem rec_in{H:Type}{enc:TypeId×Value→H}{W:World}{v:Value}{d:DataW H}{p:List MemPlace}{base:Nat}
 (ae:Value.okWide Tryz.prog W .any base 31 v) (hj:DataW.Trod enc Tryz.prog W 0 (fun _=>true) true 31 v d p):
 ∃(rf:Nat→Value) (f o c:Hd) (fs:List Fo) (os:List Ow) (cl:List (Cm×CmV)),Af W rf f o c fs os cl∧v=.agg (ah 8 rf):=by
 obtain⟨rf,f,o,c,fs,os,cl,h1,h2,h3,h4,h5,h6,h7,h8,h9,af⟩:=Qj ae hj;exact⟨rf,f,o,c,fs,os,cl,⟨h2,h3,h4,h5,h6,h7,h8,h9,af⟩,h1⟩
theorem hd_n{s:Nat}{w:World}{h:Hd}{n:Nat}{c:Nat→Nat→Value}(hs:SlW s w h.v n c):h.n=n:=by
 obtain⟨a,k,e⟩:=hs.slice;obtain⟨ha,hn,hk⟩:=h;cases e;rfl
theorem Af.cms{W:World}{rf:Nat→Value}{f o v:Hd}{fs:List Fo}{os:List Ow}{cl:List (Cm×CmV)}(h:Af W rf f o v fs os cl):
 yt W v (cl.map (·.1)) (fun i=>(cl.getD i (cm0,cv0)).2):=by
 refine⟨?_,?_,fun i hi=>?_⟩
 · rw[Yk];exact hd_n h.cm
 · rw[Yk];exact h.cm.congr (fun i hi j hj=>by rw[lC cl cm0 cv0])
 · rw[lC cl cm0 cv0];exact(h.cg _ (aK (by simpa using hi))).2
theorem Af.rc{W:World}{rf:Nat→Value}{f o v:Hd}{fs:List Fo}{os:List Ow}{cl:List (Cm×CmV)}(h:Af W rf f o v fs os cl)(hT:Tab W)(fw:f.n≤3∧Aj (cl.map (·.1))∧o.n≤20):
 uj W f o v fs os (cl.map (·.1)) (fun i=>(cl.getD i (cm0,cv0)).2)∧RcW fs os (cl.map (·.1)):=by
 have n1:=hd_n h.fo;have n2:=hd_n h.ow;obtain⟨f1,⟨f2,f3⟩,f4⟩:=fw;have hc:=h.cms;refine⟨⟨hT,n1,h.fo.at (by omega),n2,h.ow.at (by omega),⟨hc.n,hc.at'.at (by omega),fun i hi=>(hc.each i hi).few (f3 _ (aK hi))⟩⟩,⟨by omega,h.fg,by omega,h.og,⟨f2,fun c hc=>⟨?_,f3 c hc⟩⟩⟩⟩;obtain⟨a,ha,rfl⟩:=Yo.1 hc;exact(h.cg a ha).1
theorem Ol(fa oa va:Option Addr)(fn fk n2 ok vn vk:Nat)(W:World):(Instr.build 31 #[(0,.slice fa fn fk),(1,.slice oa n2 ok),(2,.slice va vn vk)]).run Tryz.prog W=.ok (.agg (ah 8 (reC ⟨fa,fn,fk⟩ ⟨oa,n2,ok⟩ ⟨va,vn,vk⟩))) W:=by kernel_rfl
theorem IP(W:World):(Instr.build 31 #[]).run Tryz.prog W=.ok (.agg (ah 8 (reC hd0 hd0 hd0))) W:=by kernel_rfl
theorem jX(g:Gp)(v:GpV):∀j,j < 32→gpC g v (2+j)=dgC g.last j:=fun j hj=>by
 unfold gpC;rw[if_neg (by omega),if_neg (by omega),if_pos (by omega),show 2+j - 2=j by omega]
theorem i64_4:bQ 4:=fB (z:=4) (by decide) (by decide)
theorem TN(la:Option Addr)(lk:Nat)(w:World)(hT:Tab w)(hs:aN 35 w (.slice la 1 lk) 1 (fun i=>scC (([keyS 4]:List Sc).getD i sc0))):
 Calls Tryz.prog 4 #[.agg (ah 8 (reC hd0 hd0 hd0)),.slice la 1 lk] w fun e w'=>∃a k,e=.returned (.slice a 1 k)∧Below w.heap.size w w':=by
 have n1:aN 33 w (.slice none 0 0) 0 (fun i=>foC (([]:List Fo).getD i fo0)):=(ax.nil (T:=45) (s:=33) (c:=foC) w 0).at' fo0 (by decide) (by decide) (by decide);have n2:aN 2 w (.slice none 0 0) 0 (fun i=>owC (([]:List Ow).getD i ow0)):=(ax.nil (T:=77) (s:=2) (c:=owC) w 0).at' ow0 (by decide) (by decide) (by decide);have n3:aN 73 w (.slice none 0 0) 0 (fun i=>cmC (([]:List Cm).getD i cm0) cv0):=(ax.nil (T:=71) (s:=73) (c:=fun c=>cmC c cv0) w 0).at' cm0 (by decide) (by decide) (by decide)
 have hA:Apart ([]:List Cm) aV (fun y:Int=>y=4) 0:=by
  refine⟨fun c hc=>(by cases hc),fun c hc=>(by cases hc),fun y d d' h h'=>?_,fun c hc=>(by cases hc)⟩;rcases h with⟨c,hc,_⟩ | ⟨h,_⟩
  · cases hc
  · rcases h' with⟨c,hc,_⟩ | ⟨h',_⟩
    · cases hc
    · rw[h,h']
 have hr:uj w hd0 hd0 hd0 [] [] [] (fun _=>cv0):=⟨hT,rfl,n1,rfl,n2,⟨rfl,n3,fun i hi=>absurd hi (Nat.not_lt_zero i)⟩⟩;have hw:RcW [] [] []:=⟨by decide,(fun a h=>by cases h),by decide,(fun a h=>by cases h),⟨by decide,(fun a h=>by cases h)⟩⟩;refine(FQ (own:=fun y:Int=>y=4) (dev:=0) [] [] [] hd0 hd0 hd0 (fun _=>cv0) [keyS 4] la lk w hA hr hw hs (by decide) (fun s hs=>?_)).mono ?_
 · rw[Yp.1 hs];exact⟨oq i64_4,Tm rfl⟩
 rintro e w' ⟨u,l,rfl,ho,hl,ae,b⟩;obtain⟨a,k,rfl⟩:=ho.slice
 have h1:l.length=1:=by
  have h2:l≠[]:=ae (by simp);have h3:l.length≠0:=fun h=>h2 (List.length_eq_zero_iff.1 h);have h4:l.length≤1+75*(0*0):=hl;omega
 rw[h1];exact⟨a,k,rfl,b⟩
theorem walk{w:World}(rf:Nat→Value)(f o v:Hd)(fs:List Fo)(os:List Ow)(cl:List (Cm×CmV))(aO:Af w rf f o v fs os cl)(dev:Int)(wd:(Lit.int .i64 dev).wf=true)(hT:Tab w):
 Calls Tryz.prog 3 #[.agg (ah 8 rf),.int .i64 dev] w (zr (.bool true) w):=by
 have dL:=zh hT;have CM:=aO.cms;have RC:=zh (fun fw=>aO.rc hT fw);have R0:=zh aO.r0;have R1:=zh aO.r1;have R2:=zh aO.r2;obtain⟨cs,cu⟩:=zg (cl.map (·.1));obtain⟨vs,cO⟩:∃y:Nat→CmV,(fun i=>(cl.getD i (cm0,cv0)).2)=y:=⟨_,rfl⟩;rw[cu,cO]at CM RC;have FW:=zh (fun W (b:Below w.heap.size w W)=>PD f o v cs vs W (CM.below b));have AT:=zh (fun W (b:Below w.heap.size w W) (fw:f.n≤3∧Aj cs∧o.n≤20)=>Nj dev fs os cs f o v vs W ((RC.o fw).1.below b) (RC.o fw).2);have KN:=zh (fun W (b:Below w.heap.size w W) (fw:f.n≤3∧Aj cs∧o.n≤20) (hA:Apart cs aV (oD os dev) dev) s (hs:ScW s)=>Pz dev fs os cs f o v vs s W hA ((RC.o fw).1.below b) (RC.o fw).2 hs);have CH:=zh (fun W (b:Below w.heap.size w W) (fw:f.n≤3∧Aj cs∧o.n≤20) fo (hf:kP fo)=>Lr cs v vs fo W ((RC.o fw).1.tab.below b) ((RC.o fw).1.cs.below b) (RC.o fw).2.cw hf);have C4:=zh (fun la lk W (hT:Tab W) hs=>TN la lk W hT hs);have K4:=zh (fun W=>Ae 4 W)
 have BZ:=zh (fun W=>IP W);obtain⟨fa,fn,fk⟩:=f;obtain⟨oa,n2,ok⟩:=o;obtain⟨va,vn,vk⟩:=v;have BR:=zh (fun W=>Ol fa oa va fn fk n2 ok vn vk W);obtain⟨rc,aP⟩:=zg (reC ⟨fa,fn,fk⟩ ⟨oa,n2,ok⟩ ⟨va,vn,vk⟩);have S0:Hid (rc 0=.slice fa fn fk):=zh (by rw[←aP];rfl);have S1:Hid (rc 1=.slice oa n2 ok):=zh (by rw[←aP];rfl);have S2:Hid (rc 2=.slice va vn vk):=zh (by rw[←aP];rfl);have RO:Hid (∀j,(rc j).oneCell'=true):=zh (by rw[←aP];exact Vu _ _ _);obtain⟨rz,bJ⟩:=zg (reC hd0 hd0 hd0);have RZ:Hid (ah 8 rz= #[.slice none 0 0,.slice none 0 0,.slice none 0 0,.slice none 0 0,.slice none 0 0,.slice none 0 0,.slice none 0 0,.slice none 0 0]):=zh (by rw[←bJ];rfl);obtain⟨k4,cZ⟩:=zg (keyS 4);rw[aP]at FW AT KN BR;rw[bJ]at C4 BZ;rw[cZ]at C4 K4;clear hT CM aO cu cO aP bJ cZ wd;go_in;have B0:=zh (Yb w.heap.size w);go_upto_region 1 with fail;obtain⟨w1,df,b1,z1,X1⟩:=zW w 31 8 rf;rw[df];(try rw[z1]);have B1:=zD B0 b1
 clear b1 df z1 B0;have x0:w1.cell? ⟨w.heap.size,0,none⟩=some (.slice fa fn fk):=(X1.cell (i:=0) (by decide)).trans (congrArg some R0.o);have x1:w1.cell? ⟨w.heap.size,1,none⟩=some (.slice oa n2 ok):=(X1.cell (i:=1) (by decide)).trans (congrArg some R1.o);have x2:w1.cell? ⟨w.heap.size,2,none⟩=some (.slice va vn vk):=(X1.cell (i:=2) (by decide)).trans (congrArg some R2.o);go_wp2_with(with_reducible refine zS 18 ?_);refine zh ?_;refine wpList_build rfl 31 _ rfl #[(0,.slice fa fn fk),(1,.slice oa n2 ok),(2,.slice va vn vk)] (by simp only[List.map_toArray,Yw,List.map_nil];rfl) _ (BR.o _) ?_;clear x0 x1 x2 R0 R1 R2;have L1:=zh B1.size;clear X1;go_wp2_with(with_reducible refine zn ?_);refine zh ?_;obtain⟨w2,aW⟩:=zg (w1.alloc (.cells #[.slice none 0 0,.slice none 0 0,.slice none 0 0,.slice none 0 0,.slice none 0 0,.slice none 0 0,.slice none 0 0,.slice none 0 0] 31))
 have b2:Below w1.heap.size w1 w2:=(by rw[←aW];exact(Yb _ _).alloc (Ya _) _);have Y2:Hid (ag w2 w1.heap.size 31 8 rz):=zh (by rw[←aW];exact(by rw[←RZ.o]<;>exact ag.new w1 _ 8 rz));have z2:w1.heap.size+1=w2.heap.size:=(by rw[←aW];exact(Array.size_push _).symm);rw[aW];(try rw[z2]);have B2:=zD B1 b2;clear b2 aW z2 B1;refine zV Y2 rfl rc rfl Zf (fun j _=>RO.o j) ?_;intro w3 Y3 o3;clear Y2;have B3:=zh (B2.trans (o3.below L1.o B2.size));have Z3:=Y3;clear B2 o3 Y3;(try dsimp only[Act.put]);go_wp2_with(with_reducible refine zS 19 ?_);refine zh (wpList_build rfl 31 _ rfl #[] (by first | rfl | simp only[List.map_toArray,List.map_nil]) _ (BZ.o _) ?_);go_wp2_with(with_reducible refine zS 20 ?_);refine zh ?_;refine wpList_build rfl 37 _ rfl #[(0,.int .i64 1),(1,.int .i64 4)] (by simp only[List.map_toArray,Yw,List.map_nil];rfl) _ (K4.o _) ?_;go_wp2_with(with_reducible refine zS 21 ?_)
 refine zh (aS (s:=35) (c:=scC) rfl 32 1 _ rfl sc0 [k4] rfl (by decide) (by decide) (by decide) (by decide) rfl Tryz.underlying32 (by kernel_rfl) (by kernel_rfl) ?_);intro w4 V4 h4 L4;have b4:=h4.o;have CX:=zh (C4.o (some ⟨w3.heap.size,0,none⟩) 1 w4 (dL.below (B3.trans (b4.mono B3.size))) (ax.at1 sc0 (by decide) (by decide) V4.o (by rw[Yj];decide)));have B4:=zD B3 b4;have Z4:=zh (Z3.below b4);clear b4 B3 Z3;clear h4 L4 V4 C4 BZ K4 BR;go_wp2_with fail;refine CX.mono ?_;rintro e w5 ⟨ca,ck,rfl,b5⟩;have B5:=zD B4 b5;have Z5:=zh (Z4.below b5);clear b5 B4 Z4;clear CX;go_wp2_with(with_reducible refine zS 25 ?_);refine zh (zL Z5 rfl Zf ?_);go_wp2_with fail;refine(FW.o w5 B5.o).mono ?_;rintro e w6 ⟨r,rfl,b6,hr⟩;have HR:=zh hr;have B6:=zD B5 b6;have Z6:=zh (Z5.below b6);clear b6 B5 Z5;clear hr FW
 cases r with
 | false=>
   go_wp2_with fail;go_ret;exact⟨rfl,B6.o⟩
 | true=>
   have FH:=zh (HR.o (by first | rfl | trivial));have AX:=zh (AT.o w6 B6.o FH.o);clear HR AT;go_wp2_with(with_reducible refine zS 29 ?_);refine zh (aX rfl ?_);refine zL Z6 rfl Zf ?_;go_wp2_with fail;refine AX.mono ?_;rintro e w7 ⟨⟨r,rfl,hr,b7⟩⟩;have HR:=zh hr;have B7:=zD B6 b7;have Z7:=zh (Z6.below b7);clear b7 B6 Z6;clear hr AX
   cases r with
   | false=>
     go_wp2_with fail;go_ret;exact⟨rfl,B7.o⟩
   | true=>
     have dh:Hid (Apart cs aV (oD os dev) dev):=zh (by
      obtain⟨P,h1,h2⟩:=HR.o (by first | rfl | trivial)
      exact h1.apart h2)
     have dM:=zh (fun W (b:Below w.heap.size w W) fo hf=>CH.o W b FH.o fo hf);have dN:=zh (fun W (b:Below w.heap.size w W) s hs=>KN.o W b FH.o dh.o s hs);have aT:=zh (RC.o FH.o);have NF:Hid (fn≤3):=zh FH.1;clear HR RC FH CH KN;have SF:Hid (aN 33 w (.slice fa fn fk) fn (fun i=>foC (fs.getD i fo0))):=zh (by have h:=aT.1.fo;rw[←show fn=fs.length from aT.1.fn]at h;exact h);have FL:Hid (fn=fs.length):=zh aT.1.fn;go_wp2_with fail;go_loopg [6] fn (fun g s6 wx=>∃i:Nat,i+g=fn∧s6=.int .i64 (i:Int)∧Hid (Below w7.heap.size w7 wx));case atStart=>exact⟨0,by omega,rfl,zh (Yb _ _)⟩
     case round=>
      obtain⟨i,hi,rfl,hB⟩:=hrel;obtain⟨w8,rfl⟩:=zG wr;have HI:=zh hi;have D8:=hB;clear hB;have B8:=zD B7 D8.o;have Z8:=zh (Z7.below D8.o);have c0:w8.cell? ⟨w1.heap.size,0,none⟩=some (.slice fa fn fk):=(Z8.cell (i:=0) (by decide)).trans (congrArg some S0.o);have q0:=Ye i;by_cases aC:i < fn
      · obtain⟨d0,d1,q2,-⟩:=zl aC;have di:=zh aC;have eF:=zw  ((i:Int)+1) (by have :=NF.o;omega);obtain⟨bf,off,rfl,bK,bM,dm⟩:=SF.aI aC;have CF:=zh (fun q (hq:q < 33)=>(show w8.cell? ⟨bf,off+i*33+q,none⟩=some (foC (fs.getD i fo0) q)by rw[Ym];exact(B8.cell (p:=⟨bf,off+33*i+q,none⟩) bM).trans (dm i aC q hq)));have GF:Hid (kP (fs.getD i fo0)):=zh (aT.2.fg _ (aK (by have h1:=FL.o;omega)));have bP:=zh (Yg bM B8.size);have LZ:=zh Z8.lt;obtain⟨x,hx⟩:=zg (fs.getD i fo0);rw[hx]at CF GF;clear aC bK bM dm hx hi;go_upto_region 9 with fail;clear c0 d0 d1;refine Tc.aA (keep w8.heap.size) 13 [] (.fl 0 (.fl 1 (.fl 2 (.fl 3 (.fl 4 (.fl 5 (.fl 6 (.one 7 (.fl 8 (.fl 9 (.fl 10 (.fl 11 (.fl 12 .done))))))))))))) (by kernel_rfl) (by kernel_rfl) ?_;intro w9 b9 e9;have aG:Hid (Below w8.heap.size w8 w9):=zh b9;clear b9 e9;refine Tc.aj [0,1,2,3,4,5,6] [_,_,_,_,_,_,_] rfl ?_;dsimp only[zx,zy,zz]
        (repeat(go_big_quiet_step(exact fun _=>rfl)));refine zC w1.heap.size 0 rfl zC22 (.slice (some ⟨bf,off,none⟩) fn fk) (fun W hW=>aQ (n:=w8.heap.size) (((Z8.below aG.o).cell (i:=0) (by decide)).trans (congrArg some S0.o)) LZ.o hW) ?_;simp only[Act.put,zu];(repeat(go_big_quiet_step(exact fun _=>rfl)));refine ze bf (off+i*33) rfl Zl (foC x) (fun W hW q hq=>aQ (n:=w8.heap.size) ((aG.cell (p:=⟨bf,off+i*33+q,none⟩) bP.o).trans (CF.o q hq)) bP.o hW) ?_;simp only[Act.put,zu];(repeat(go_big_quiet_step(exact fun _=>rfl)));refine zC w1.heap.size 2 rfl Zo (.slice va vn vk) (fun W hW=>aQ (n:=w8.heap.size) (((Z8.below aG.o).cell (i:=2) (by decide)).trans (congrArg some S2.o)) LZ.o hW) ?_;simp only[Act.put,zu];(repeat(go_big_quiet_step(exact fun _=>rfl)));refine wpQuiet_nil ?_;refine Tc.ae 7 rfl (fun K hK=>?_);have dn:=zh (dM.o w9 (B8.trans (aG.mono B8.size)) x GF.o);go_wp2_with fail;refine dn.mono ?_
        rintro e bC ⟨u1,u2,la,l,rfl,h1,h2,h3,bq⟩;have bb:=bq.mono aG.size;have ay:=zh (aG.trans bb);obtain⟨aa,ak,rfl⟩:=h1.slice;have H2:=zh h2;have GO:=zh h3;obtain⟨ga,gk,rfl⟩:=h2.slice;have SG:Hid (aN 36 bC (.slice ga l.length gk) l.length (fun i=>gpA (l.getD i fZ))):=zh (H2.at' fZ (by decide) (by decide) (Yc GO.2 (by have h1:=aT.2.cw.len;omega)));obtain⟨na,dw⟩:=zg la.length;obtain⟨ng,bD⟩:=zg l.length;have dA:=zh bD;rw[dw,bD];rw[bD]at SG;clear dw bD h1 h2 h3 H2 dn;go_wp2_with fail;refine hK _ _ (az bb) ?_;clear hK K bb bq aG;refine Tc.aj [8,9,10,11,12] [_,_,_,_,_] rfl ?_;dsimp only[zx,zy,zz];(try simp only[List.setIfInBounds_toArray,List.set_cons_succ,List.set_cons_zero]);(repeat(go_big_quiet_step(exact fun _=>rfl)));refine wpQuiet_nil ?_;refine Tc.aF (l:=[]) rfl (fun K hK=>?_);refine(show wpList _ _ _ [] _ _ from hK _ _ ?_);clear hK K;(try dsimp only[Act.put]);(try simp only[Act.put,zu])
        clear LZ;have dO:=zD B8 ay.o;have dP:=zh (Z8.below ay.o);have dQ:=zD D8 ay.o;clear ay B8 Z8 D8 CF GF bP q0 q2;go_wp2_with fail;go_loopg [9] ng (fun g s9 wx=>∃k:Nat,k+g=ng∧s9=.int .i64 (k:Int)∧Hid (Below bC.heap.size bC wx));case atStart=>exact⟨0,by omega,rfl,zh (Yb _ _)⟩
        case round=>
         obtain⟨k,hk,rfl,hB⟩:=hrel;obtain⟨aZ,rfl⟩:=zG wr;have HK:=zh hk;have bn:=hB;clear hB;have q0:=Ye k;by_cases aH:k < ng
         · obtain⟨d0,d1,q2,-⟩:=zl aH;have bu:=zh aH;have eG:=zw  ((k:Int)+1) (by have h1:=aT.2.cw.len;have h2:=GO.2;have h3:=dA.o;omega);obtain⟨bg,og,rfl,bK,bQ,dB⟩:=SG.aI aH;have dR:=zD dO bn.o;have CG:=zh (fun q (hq:q < 36)=>(show aZ.cell? ⟨bg,og+k*36+q,none⟩=some (gpA (l.getD k fZ) q)by rw[Ym];exact(bn.cell (p:=⟨bg,og+36*k+q,none⟩) bQ).trans (dB k aH q hq)));have GA:=zh (GO.1 (l.getD k fZ) (aK (by have h1:=dA.o;omega)));have bT:=zh (Yg bQ bn.size);obtain⟨a,ha⟩:=zg (l.getD k fZ);rw[ha]at CG GA;obtain⟨y,yv⟩:=a;have ME:=zh GA.1.1;have GW:=zh GA.2.1;have PL:=zh GA.2.2;obtain⟨ma,mk,hm⟩:=ME.slice;have SM:Hid (aN 3 bC yv.m.v y.mem.length (fun q=>meC (y.mem.getD q me0))):=zh (ME.at' me0 (by decide) (by decide) (Yc GW.ml (by decide)));have MN:Hid (y.mem.length≤2000):=zh GW.ml;have CM:Hid (aZ.cell? ⟨bg,og+k*36+34,none⟩=some yv.m.v):=zh (CG.o 34 (by decide));rw[hm]at SM CM
           obtain⟨nm,bU⟩:=zg y.mem.length;have dS:=zh bU;rw[bU]at SM CM MN;obtain⟨dl,bF⟩:=zg y.last
           have CD:Hid (∀q,q < 32→aZ.cell? ⟨bg,og+k*36+2+q,none⟩=some (dgC dl q)):=zh (fun q hq=>by
            have h:=CG.o (2+q) (by omega);rw[show gpA (y,yv) (2+q)=dgC y.last q from jX y yv q hq,bF]at h;rw[Nat.add_assoc]
            exact h)
           have dC:Hid (GoodS cs (oD os dev) dev (bZ dl)→dev∈y.mem.map (·.d)):=zh (fun h=>by
            obtain⟨g,c,p⟩:=PL.o;rw[←bF]at h
            exact Jd dh.o p h)
           have SE:Hid (ScW (bZ dl)):=zh (jI (by rw[←bF];exact GW.last));have BE:=zh (fun W=>rZ dl W);obtain⟨se,dE⟩:=zg (bZ dl);rw[dE]at dC SE BE;clear aH bK bQ dB ha hm bU bF dE GA ME GW PL CG hk;go_wp2_with fail;clear d0 d1;go_loopg [10,11] nm (fun g dU dV wx=>∃(m:Nat) (mb:Bool),m+g=nm∧dU=.bool mb∧dV=.int .i64 (m:Int)∧Hid (mb=false→∀q,q < m→(y.mem.getD q me0).d≠dev)∧Hid (Below aZ.heap.size aZ wx));case atStart=>exact⟨0,false,by omega,rfl,rfl,zh (fun _ q h=>absurd h (Nat.not_lt_zero q)),zh (Yb _ _)⟩
           case round=>
            obtain⟨m,mb,hm,rfl,rfl,dF,hB⟩:=hrel;obtain⟨ai,rfl⟩:=zG wr;have HM:=zh hm;have MB:=dF;have au:=hB;clear hB dF;have dG:=zD dR au.o;have bH:=zD bn au.o;have dW:ai.cell? ⟨bg,og+k*36+34,none⟩=some (.slice ma nm mk):=(au.cell (p:=⟨bg,og+k*36+34,none⟩) bT.o).trans CM.o;have d1:decide (k < ng)=true:=(by rw[decide_eq_true_iff];exact bu.o);have p0:=Ye m;by_cases aB:m < nm
            · obtain⟨e0,e1,p2,-⟩:=zl aB;have aU:=zh aB;have eH:=zw  ((m:Int)+1) (by have :=MN.o;omega)
              cases mb with
              | true=>
                clear aB hm;go_wp2_with fail;go_roundg(nm - (m+1));case measure=>have h1:=aU.o;have h2:=HM.o;omega
                case rel=>
                 go_light;exact⟨m+1,true,by have h1:=aU.o;omega,rfl,by go_num,zh (fun h=>by cases h),au⟩
              | false=>
                obtain⟨bm,om,rfl,dX,dH,dI⟩:=SM.aI aB
                have cm:ai.cell? ⟨bm,om+m*3,none⟩=some (.int .i64 (y.mem.getD m me0).d):=by
                 rw[Ym];exact(bH.cell (p:=⟨bm,om+3*m,none⟩) dH).trans (dI m aB 0 (by decide))
                obtain⟨z,hz⟩:=zg ((y.mem.getD m me0).d);have HZ:=zh hz;rw[hz]at cm;clear aB dX dH dI hz hm;by_cases aJ:z=dev
                · have g0:decide (z=dev)=true:=zt aJ;have g1:(z==dev)=true:=(by rw[beq_iff_eq];exact aJ);clear aJ;go_wp2_with fail;go_roundg(nm - (m+1));case measure=>have h1:=aU.o;have h2:=HM.o;omega
                  case rel=>
                   go_light;exact⟨m+1,true,by have h1:=aU.o;omega,rfl,by go_num,zh (fun h=>by cases h),au⟩
                · have g0:decide (z=dev)=false:=zT aJ;have g1:(z==dev)=false:=by rw[beq_eq_false_iff_ne];exact aJ
                  have dY:Hid (false=false→∀q,q < m+1→(y.mem.getD q me0).d≠dev):=zh (fun h q hq=>by
                   rcases Nat.lt_succ_iff_lt_or_eq.1 hq with hq | rfl
                   · exact MB.o (by first | rfl | trivial) q hq
                   · rw[HZ.o];exact aJ)
                  clear aJ;go_wp2_with fail;go_roundg(nm - (m+1));case measure=>have h1:=aU.o;have h2:=HM.o;omega
                  case rel=>
                   go_light;exact⟨m+1,false,by have h1:=aU.o;omega,rfl,by go_num,zh (fun _=>dY.o (by first | rfl | trivial)),au⟩
            · obtain⟨e0,e1⟩:=zk aB
              have dZ:Hid (mb=false→¬dev∈y.mem.map (·.d)):=zh (fun h hd=>by
               obtain⟨u,hu,e⟩:=Yo.1 hd;obtain⟨q,hq,e2⟩:=List.mem_iff_getElem.1 hu;have e3:y.mem.getD q me0=u:=(by rw[Yd,Yh hq];exact e2);have h1:=dS.o
               exact MB.o h q (by omega) (by rw[e3];exact e))
              clear aB hm MB HM;go_upto_region 18 with fail;clear dW e0 e1 p0
              cases mb with
              | true=>
                refine Tc.aA (keep ai.heap.size) 13 [] (.fl 0 (.fl 1 (.fl 2 (.fl 3 (.fl 4 (.fl 5 (.fl 6 (.fl 7 (.fl 8 (.fl 9 (.one 10 (.one 11 (.fl 12 .done))))))))))))) (by kernel_rfl) (by kernel_rfl) ?_;intro bI bz bV;have af:Hid (Below ai.heap.size ai bI):=zh bz;clear bz bV;refine Tc.aj [0,1,2,3,4,5,6,7,8,9] [_,_,_,_,_,_,_,_,_,_] rfl ?_;dsimp only[zx,zy,zz];(repeat(go_big_quiet_step(exact fun _=>rfl)));refine wpQuiet_nil ?_;refine Tc.ae 10 rfl (fun K hK=>?_);refine dD rfl ?_;refine hK _ _ (az (Yb _ _)) ?_;clear hK K;(try dsimp only[Act.put]);refine Tc.ae 11 rfl (fun K hK=>?_);refine dD rfl ?_;refine hK _ _ (az (Yb _ _)) ?_;clear hK K;(try dsimp only[Act.put]);refine Tc.aj [12] [_] rfl ?_;dsimp only[zx,zy,zz];(try simp only[List.setIfInBounds_toArray,List.set_cons_succ,List.set_cons_zero]);(repeat(go_big_quiet_step(exact fun _=>rfl)));refine wpQuiet_nil ?_
                refine Tc.aF (l:=[]) rfl (fun K hK=>?_);refine(show wpList _ _ _ [] _ _ from hK _ _ ?_);clear hK K;(try dsimp only[Act.put]);(try simp only[Act.put,zu]);have ed:=zD bH af.o;go_wp2_with fail;go_roundg(ng - (k+1));case measure=>have h1:=bu.o;have h2:=HK.o;omega
                case rel=>
                 go_light;exact⟨k+1,by have h1:=bu.o;omega,by go_num,ed⟩
              | false=>
                have dJ:=zh (dP.below bH.o);have LZ:=zh dJ.lt;have dK:=zh (Yg bT.o au.size);have bW:Hid (∀q,q < 32→ai.cell? ⟨bg,og+k*36+2+q,none⟩=some (dgC dl q)):=zh (fun q hq=>(au.cell (p:=⟨bg,og+k*36+2+q,none⟩) bT.o).trans (CD.o q hq));refine Tc.aA (keep ai.heap.size) 13 [] (.fl 0 (.fl 1 (.fl 2 (.fl 3 (.fl 4 (.fl 5 (.fl 6 (.fl 7 (.fl 8 (.fl 9 (.one 10 (.one 11 (.fl 12 .done))))))))))))) (by kernel_rfl) (by kernel_rfl) ?_;intro bI bz bV;have af:Hid (Below ai.heap.size ai bI):=zh bz;clear bz bV;refine Tc.aj [0,1,2,3,4,5,6,7,8,9] [_,_,_,_,_,_,_,_,_,_] rfl ?_;dsimp only[zx,zy,zz];(repeat(go_big_quiet_step(exact fun _=>rfl)));refine aY rfl ?_;refine zq w1.heap.size 0 rfl 8 Zf rc rc (fun W hW=>bG (n:=ai.heap.size) (dJ.below af.o) LZ.o hW) (by decide) (fun j _=>by rw[Yl]) ?_;simp only[Act.put,zu];(repeat(go_big_quiet_step(exact fun _=>rfl)));refine aY rfl ?_
                refine ze bg (og+k*36+2) rfl YQ (dgC dl) (fun W hW q hq=>aQ (n:=ai.heap.size) ((af.cell (p:=⟨bg,og+k*36+2+q,none⟩) dK.o).trans (bW.o q hq)) dK.o hW) ?_;simp only[Act.put,zu];(repeat(go_big_quiet_step(exact fun _=>rfl)));refine wpQuiet_nil ?_;refine Tc.ae 10 rfl (fun K hK=>?_);refine aX rfl ?_;refine wpList_build rfl 37 _ rfl #[(0,.int .i64 3),(2,.agg (ah 32 (dgC dl)))] (by simp only[List.map_toArray,Yw,List.map_nil];rfl) _ (BE.o _) ?_;refine(show wpList _ _ _ [] _ _ from hK _ _ (az (Yb _ _)) ?_);clear hK K;(try dsimp only[Act.put]);(try simp only[Act.put,zu]);refine Tc.ae 11 rfl (fun K hK=>?_);have KX:=zh (dN.o bI (dG.trans (af.mono dG.size)) se SE.o);go_wp2_with fail;refine KX.mono ?_;rintro e eP ⟨r,rfl,hr,bq⟩;have bb:=bq.mono af.size;have bY:=zh (af.trans bb);have HR:=zh hr;go_wp2_with fail;refine hK _ _ (az bb) ?_;clear hK K bb bq hr KX af;(try dsimp only[Act.put])
                refine Tc.aj [12] [_] rfl ?_;dsimp only[zx,zy,zz];(try simp only[List.setIfInBounds_toArray,List.set_cons_succ,List.set_cons_zero]);(repeat(go_big_quiet_step(exact fun _=>rfl)));refine wpQuiet_nil ?_;refine Tc.aF (l:=[]) rfl (fun K hK=>?_);refine(show wpList _ _ _ [] _ _ from hK _ _ ?_);clear hK K;(try dsimp only[Act.put]);(try simp only[Act.put,zu]);have eu:=zD bH bY.o
                cases r with
                | true=>exact absurd (dC.o (HR.o (by first | rfl | trivial))) (dZ.o (by first | rfl | trivial))
                | false=>
                  go_wp2_with fail;go_roundg(ng - (k+1));case measure=>have h1:=bu.o;have h2:=HK.o;omega
                  case rel=>
                   go_light;exact⟨k+1,by have h1:=bu.o;omega,by go_num,eu⟩
         · obtain⟨d0,d1⟩:=zk aH;have au:=zD dQ bn.o;clear aH hk q0;go_wp2_with fail;go_roundg(fn - (i+1));case measure=>have h1:=di.o;have h2:=HI.o;omega
           case rel=>
            go_light;exact⟨i+1,by have h1:=di.o;omega,by go_num,au⟩
      · obtain⟨d0,d1⟩:=zk aC;clear aC hi q0;go_wp2_with fail;go_ret;exact⟨rfl,B8.o⟩
end Go.Proofs.YtfddbnmfllgifaaGreatDoor.topMembers
