/- Part of TopMembers. -/
import Derived.Test.YtfddbnmfllgifaaGreatDoorA46
set_option linter.unusedVariables false
set_option linter.unusedSimpArgs false
set_option maxHeartbeats 64000000
set_option maxRecDepth 100000
namespace Go.Proofs.YtfddbnmfllgifaaGreatDoor
open Go.RowKit Cod Top
structure AllD(w w':World)(cs:List Cm)(own:Int→Prop)(dev:Int)(m:Nat)(e:Ending):Prop where
 ex:∃(u:Value) (l:List DvP),e=.returned u∧ax 96 36 dvC w' w.heap.size u l∧elD cs own dev l w'∧l.length≤m∧Below w.heap.size w w'
theorem elD.below{cs:List Cm}{own:Int→Prop}{dev:Int}{l:List DvP}{W W':World}(h:elD cs own dev l W)(b:Below W.heap.size W W'):elD cs own dev l W':=fun d hd=>(h d hd).below b
theorem VT{own:Int→Prop}{dev:Int}(fs:List Fo)(os:List Ow)(cs:List Cm)(f o v:Hd)(vs:Nat→CmV)(w:World)(hA:Apart cs aV own dev)(hr:uj w f o v fs os cs vs)(hw:RcW fs os cs):
 Calls Tryz.prog 23 #[.agg (ah 8 (reC f o v))] w fun e w'=>AllD w w' cs own dev (75*(fs.length*cs.length)) e:=by
 have RE:=zh hr;have RW:=zh hw;obtain⟨mm,ak⟩:=zg (fs.length*cs.length);have MM:Hid (mm≤21):=zh (by rw[←ak];exact Nat.mul_le_mul hw.fl hw.cw.len);have PS:=zh (fun W (b:Below w.heap.size w W)=>places_any fs os cs f o v vs W hA (hr.below b) hw);rw[ak]at PS ⊢;obtain⟨rc,au⟩:=zg (reC f o v);have aC:=zh au;rw[au]at PS ⊢;clear hA hr hw ak au;have bf:=zM Tryz.prog;go_in;have B0:=zh (Yb w.heap.size w);go_upto_region 1 with fail;obtain⟨w1,aF,b1,z1,Z1⟩:=zW w 31 8 rc;rw[aF];(try rw[z1]);have B1:=zD B0 b1;clear b1 aF z1 B0;have ai:=B1;clear B1;have B1:Hid (Below w1.heap.size w1 w1):=zh (Yb _ _);go_wp2_with(with_reducible refine zS 19 ?_);refine zh (zL Z1 rfl Zf ?_);go_wp2_with fail;refine(PS.o w1 ai.o).mono ?_;rintro e w2 ⟨u,ae,rfl,ho,hp,aG,b2⟩;have LW:=zh ai.size;have O2:=zh ho;have P2:=zh hp;have LP:=zh aG;clear ho hp aG PS;have B2:=zD B1 b2;clear b2 B1;obtain⟨pa,pk,rfl⟩:=O2.slice
 go_upto_region 2 with fail;obtain⟨w3,aH,b3,z3,V3⟩:=zQ w2 (.cells #[.slice pa ae.length pk] 119) 119 1 (fun _=>.slice pa ae.length pk) rfl;rw[aH];(try rw[z3]);have B3:=zD B2 b3;have O3:=zh (O2.below b3);have P3:=zh (P2.below b3);clear b3 aH z3 B2 O2 P2;have v0:w3.cell? ⟨w2.heap.size,0,none⟩=some (.slice pa ae.length pk):=V3.cell (i:=0) (by decide);obtain⟨np,ay⟩:=zg ae.length;have az:=zh ay;rw[ay]at O3 V3 v0 LP ⊢;clear ay;go_wp2_with fail;clear v0
 go_loopg [2,24] np (fun g s2 aU wx=>∃(j:Nat) (u:Value) (l:List DvP),j+g=np∧s2=u∧aU=.int .i64 (j:Int)∧Hid (l.length≤75*j)∧Hid (ax 96 36 dvC wx w1.heap.size u l)∧Hid (elD cs own dev l wx)∧
  Hid (ax 122 111 plC wx w1.heap.size (.slice pa np pk) ae)∧Hid (oI cs vs wx ae)∧Hid (Below w1.heap.size w1 wx))
 case atStart=>exact⟨0,_,[],by omega,rfl,rfl,zh (Nat.zero_le _),zh (ax.nil _ _),zh (fun d hd=>by cases hd),O3,P3,B3⟩
 case round=>
  clear O3 P3 V3 B3;obtain⟨j,u,l,hj,rfl,rfl,hL,hU,hE,hO,hP,hB⟩:=hrel;obtain⟨w4,rfl⟩:=zG wr;have HJ:=zh hj;have L4:=hL;have U4:=hU;have E4:=hE;have O4:=hO;have P4:=hP;have B4:=hB;clear hL hU hE hO hP hB;have q0:=Ye j;by_cases af:j < np
  · obtain⟨d0,d1,q2,-⟩:=zl af;have aA:=zh af;have bg:=zw  ((j:Int)+1) (by have :=LP.o;have :=MM.o;omega)
    have SP:aN 111 w4 (.slice pa np pk) np (fun i=>plC (ae.getD i mf)):=by
     have h:=ax.at1 mf (by decide) (by decide) O4.o (by rw[az.o];have :=LP.o;have :=MM.o;omega);rwa[az.o]at h
    obtain⟨bb,bo,rfl,aB,aW,aJ⟩:=SP.aI af;have CB:=zh (fun q hq=>aJ j af q hq);have aQ:j < ae.length:=(by rw[az.o];exact af);have PM:=zh (aK (d:=mf) aQ);obtain⟨a,ha⟩:=zg (ae.getD j mf);rw[ha]at CB PM;obtain⟨ua,uc,rfl⟩:=U4.slice;clear af SP aB aW aJ ha aQ hj;go_upto_region 5 with fail;go_wp2_with(with_reducible refine zS 27 ?_);refine zh (zE bb (bo+j*111) rfl Zk bo j (by rw[Ym]) (plC a) CB.o ?_);clear CB d0 d1 q0 q2;have Zr:=zh (ag.new w4 122 111 (plC mf));go_upto_region 6 with((with_reducible refine zN ?_);refine zV Zr rfl (plC a) rfl Zk (fun j _=>uK _ j) ?_;intro w5 A5 o5);have b5:Below w4.heap.size w4 w5:=zO o5;have B5:=zD B4 b5;have U5:=zh (U4.below b5);have E5:=zh (E4.below b5);have O5:=zh (O4.below b5);have P5:=zh (P4.below b5);clear b5 o5 Zr B4 U4 E4 O4 P4;go_wp2_with(with_reducible refine zS 29 ?_);refine zh (zL A5 rfl Zk ?_);go_wp2_with fail;refine(Qx a w5).mono ?_
    rintro e w6 ⟨PB,rfl,aS,hle,b6⟩;have aj:=zh aS;clear aS hle;have B6:=zD B5 b6;have U6:=zh (U5.below b6);have E6:=zh (E5.below b6);have O6:=zh (O5.below b6);have P6:=zh (P5.below b6);clear b6 B5 U5 E5 O5 P5 A5;have PO:=P6.o a PM.o;obtain⟨i,hi,hc,hv⟩:=PO.c;have aT:=ai.trans (B6.mono ai.size);have CA:kM w a.1.c a.2.c:=(by rw[hc,hv];exact RE.cs.each i hi);have CI:CmI a.1.c∧lT a.1.c:=(by rw[hc];exact RW.cw.get hi);have LL:Hid (l.length+80≤1000000):=zh (by have h1:=L4.o;have h2:=aA.o;have h3:=LP.o;have h4:=MM.o;omega);have SQ:=zh (Vx 4 (own:=own) (dev:=dev) cs vs a PB w w6 (Hp.of aT) CA CI.1 CI.2 PO aj.o)
    have AQ:=zh (Rq (enters_of Tryz.func94 (by kernel_rfl) rfl) w6 w1.heap.size (.slice ua l.length uc) l U6.o E6.o SQ.o (fun k hk=>by
     rcases hk with hk | rfl | hk
     · exact⟨Yg hk (Yc LW.o B6.size),fun e=>by have h1:=(U6.lt k e).1;have h2:=LW.o;omega⟩
     · exact⟨aj.lt,aP (by decide) U6.o aj.o⟩
     · refine⟨(PO.t.lt k hk).2,fun e=>?_⟩;rcases yA (by decide) U6.o PO.t with h | h
       · rw[h]at e;cases e
       · exact h (e.trans hk.symm)) LL.o B6.size)
    clear PO hi hc hv aT CA CI SQ;go_wp2_with fail;refine AQ.mono ?_;rintro e w7 ⟨u',xs,rfl,hs,ho,he,st⟩;have U7:=zh ho;have E7:Hid (elD cs own dev (l++xs) w7):=zh he;have O7:=zh (O6.beside U6.o (by decide) st);have P7:=zh (P6.own U6.o (by decide) (by decide) st);have B7:=zh (B6.trans (aO st B6.size (fun q hq=>(U6.lt q hq).1)));have L7:Hid ((l++xs).length≤75*(j+1)):=zh (by rw[Yf];have h1:=L4.o;have h2:xs.length≤75:=hs;omega);clear AQ hs ho he st U6 E6 O6 P6 B6 aj PM;go_wp2_with fail;go_roundg(np - (j+1));case measure=>have h1:=aA.o;have h2:=HJ.o;omega
    case rel=>
     go_light;exact⟨j+1,u',l++xs,by have h1:=aA.o;omega,rfl,by go_num,L7,U7,E7,O7,P7,B7⟩
  · obtain⟨d0,d1⟩:=zk af;have Z4:=zh (Z1.below B4.o);have c3:w4.cell? ⟨w.heap.size,3,none⟩=some (.slice none 0 0):=(Z4.cell (i:=3) (by decide)).trans (by rw[←aC.o];rfl);have c4:w4.cell? ⟨w.heap.size,4,none⟩=some (.slice none 0 0):=(Z4.cell (i:=4) (by decide)).trans (by rw[←aC.o];rfl);have LN:Hid (l.length≤75*mm):=zh (by have h1:=L4.o;have h2:=HJ.o;have h3:=LP.o;omega);obtain⟨ua,uc,rfl⟩:=U4.slice;clear af hj q0 HJ L4 Z4;go_wp2_with fail;clear c3 d0 d1;go_loopg [2,36] 0 (fun g s2 aX wx=>s2=.slice ua l.length uc∧aX=.int .i64 0∧Hid (wx=w4));case atStart=>exact⟨rfl,rfl,zh rfl⟩
    case round=>
     obtain⟨rfl,rfl,hw⟩:=hrel;obtain rfl:=hw.o;go_wp2_with fail;go_loopg [2,87] 0 (fun g s2 aY wy=>s2=.slice ua l.length uc∧aY=.int .i64 0∧Hid (wy=wr));case atStart=>exact⟨rfl,rfl,zh rfl⟩
     case round=>
      obtain⟨rfl,rfl,aZ⟩:=hrel;obtain rfl:=aZ.o;go_wp2_with fail;go_ret;exact⟨⟨_,l,rfl,U4.mono LW.o,E4.o,LN.o,ai.trans (B4.mono ai.size)⟩⟩
def oD(os:List Ow)(dev:Int)(y:Int):Prop:=∃o∈os,o.d=dev∧o.p=y
def ScG(cs:List Cm)(own:Int→Prop)(dev:Int)(s:Sc):Prop:=ScW s∧GoodS cs own dev s
theorem XH(a:Ow)(j:Nat):(owC a j).oneCell'=true:=by unfold owC;split<;>rfl
def FrsO(w w':World)(cs:List Cm)(own:Int→Prop)(dev:Int)(m:Nat)(e:Ending):Prop:=∃(u:Value) (l:List Sc),e=.returned u∧ax 37 35 scC w' w.heap.size u l∧elS (ScG cs own dev) l w'∧l.length≤m∧Below w.heap.size w w'
theorem Ia(dev:Int)(fs:List Fo)(os:List Ow)(cs:List Cm)(f o v:Hd)(vs:Nat→CmV)(w:World)(hA:Apart cs aV (oD os dev) dev)(hr:uj w f o v fs os cs vs)(hw:RcW fs os cs):
 Calls Tryz.prog 18 #[.agg (ah 8 (reC f o v)),.int .i64 dev] w fun e w'=>FrsO w w' cs (oD os dev) dev 100 e:=by
 have RW:=zh hw;obtain⟨mm,aF⟩:=zg (fs.length*cs.length);have MM:Hid (mm≤21):=zh (by rw[←aF];exact Nat.mul_le_mul hw.fl hw.cw.len);have PS:=zh (fun W (b:Below w.heap.size w W)=>places_any fs os cs f o v vs W hA (hr.below b) hw);rw[aF]at PS;obtain⟨ob,ok,aG⟩:=hr.ow.slice;have SO:=hr.ow;rw[aG]at SO;have SX:=zh SO;have NO:Hid (os.length≤20):=zh hw.ol;obtain⟨rc,aH⟩:=zg (reC f o v);have r1:rc 1=.slice ob os.length ok:=(by rw[←aH];exact aG);rw[aH]at PS ⊢;obtain⟨no,aJ⟩:=zg os.length;have aW:=zh aJ;rw[aJ]at SX NO r1;have R1:=zh r1;clear hA hr hw aF aH SO aG aJ r1;go_in;have B0:=zh (Yb w.heap.size w);go_upto_region 1 with fail;obtain⟨w1,aT,b1,z1,Z1⟩:=zW w 31 8 rc;rw[aT];(try rw[z1]);have B1:=zD B0 b1;clear b1 aT z1 B0;have LW:=zh B1.size;have aj:=B1;clear B1;have B1:Hid (Below w1.heap.size w1 w1):=zh (Yb _ _)
 have c1:w1.cell? ⟨w.heap.size,1,none⟩=some (.slice ob no ok):=(Z1.cell (i:=1) (by decide)).trans (congrArg some R1.o);go_wp2_with fail;clear c1;go_loopg [4,12] no (fun g s4 aX wx=>∃(j:Nat) (u:Value) (l:List Sc),j+g=no∧s4=u∧aX=.int .i64 (j:Int)∧Hid (l.length≤j)∧Hid (ax 37 35 scC wx w1.heap.size u l)∧Hid (∀s∈l,ScG cs (oD os dev) dev s)∧Hid (Below w1.heap.size w1 wx));case atStart=>exact⟨0,_,[],by omega,rfl,rfl,zh (Ya _),zh (ax.nil _ _),zh (fun d hd=>by cases hd),B1⟩
 case round=>
  obtain⟨j,u,l,hj,rfl,rfl,hL,hU,hE,hB⟩:=hrel;obtain⟨w2,rfl⟩:=zG wr;have HJ:=zh hj;have L2:=hL;have U2:=hU;have E2:=hE;have B2:=hB;clear hL hU hE hB;obtain⟨ua,uc,rfl⟩:=U2.slice;have q0:=Ye j;by_cases ae:j < no
  · obtain⟨d0,d1,q2,-⟩:=zl ae;have af:=zh ae;have aY:=zw  ((j:Int)+1) (by have :=NO.o;omega);obtain⟨bb,bo,rfl,ai,aC,ay⟩:=SX.aI ae;have CB:=zh (fun q hq=>((aj.trans (B2.mono aj.size)).cell (p:=⟨bb,bo+2*j+q,none⟩) aC).trans (ay j ae q hq));have az:j < os.length:=(by rw[aW.o];exact ae);have OM:=zh (aK (d:=ow0) az);obtain⟨x,hx⟩:=zg (os.getD j ow0);rw[hx]at CB OM;have XG:=zh (RW.og x OM.o);clear ae ai aC ay hx az hj;go_upto_region 3 with fail;go_wp2_with(with_reducible refine zS 15 ?_);refine zh (zE bb (bo+j*2) rfl zU77 bo j (by rw[Ym]) (owC x) CB.o ?_);clear CB d0 d1 q0 q2;have Zr:=zh (ag.new w2 77 2 (owC ow0));go_upto_region 4 with((with_reducible refine zN ?_);refine zV Zr rfl (owC x) rfl zU77 (fun j _=>XH _ j) ?_;intro w3 X3 o3);have b3:Below w2.heap.size w2 w3:=zO o3;have B3:=zD B2 b3;have U3:=zh (U2.below b3);clear b3 o3 Zr B2 U2
    have x0:w3.cell? ⟨w2.heap.size,0,none⟩=some (.int .i64 x.d):=X3.cell (i:=0) (by decide);have x1:w3.cell? ⟨w2.heap.size,1,none⟩=some (.int .i64 x.p):=X3.cell (i:=1) (by decide);by_cases he:x.d=dev
    · have KK:=zh (fun W=>mQ x.p W);have GK:Hid (ScG cs (oD os dev) dev (keyS x.p)):=zh ⟨oq XG.2,Tm ⟨x,OM.o,he,rfl⟩⟩;obtain⟨xd,aA⟩:=zg x.d;rw[aA]at x0 he;have e1:(xd==dev)=true:=(by simpa using he);clear he aA;have LL:Hid (l.length+1≤1000000):=zh (by have h1:=L2.o;have h2:=af.o;have h3:=NO.o;omega);go_wp2_with fail;refine(KK.o w3).mono ?_;rintro e w4 ⟨rfl,b4⟩;clear x0 x1;have B4:=zD B3 b4;have U4:=zh (U3.below b4);clear b4 B3 U3 X3;go_wp2_with(with_reducible refine zS 24 ?_);refine zh (aS (s:=35) (c:=scC) rfl 32 1 _ rfl sc0 [keyS x.p] rfl (by decide) (by decide) (by decide) (by decide) rfl Tryz.underlying32 (by kernel_rfl) (by kernel_rfl) ?_);intro w5 V5 h5 L5;have b5:=h5.o;have B5:=zD B4 b5;have U5:=zh (U4.below b5);clear b5 B4 U4;clear h5 L5;go_wp2_with(with_reducible refine zS 25 ?_);refine zh ?_
      refine bK rfl (.tmp 20) (.tmp 24) nV Tryz.underlying32 rfl (by decide) (by decide) (fun u j=>eG u j) sc0 rfl w1.heap.size _ l rfl U5.o _ [keyS x.p] rfl (ax.at1 sc0 (by decide) (by decide) V5.o (by rw[Yj];decide)) (by have h1:=LL.o;rw[Yj];omega) B5.size ?_;intro v6 w6 O6 s6;have B6:=zh (B5.trans (aO s6.o B5.size (fun q hq=>(U5.lt q hq).1)))
      have E6:Hid (∀s∈l++[keyS x.p],ScG cs (oD os dev) dev s):=zh (fun s hs=>by
       rcases Yt.1 hs with h | h
       · exact E2.o s h
       · rw[Yp.1 h];exact GK.o)
      obtain⟨va,vc,rfl⟩:=O6.slice;have LN:Hid ((l++[keyS x.p]).length≤j+1):=zh (by rw[Yf,Yj];have h1:=L2.o;omega);obtain⟨nl,aB⟩:=zg (l++[keyS x.p]);rw[aB]at O6 E6 LN ⊢;clear s6 U5 V5 B5 aB KK;go_wp2_with fail;go_roundg(no - (j+1));case measure=>have h1:=af.o;have h2:=HJ.o;omega
      case rel=>
       go_light;exact⟨j+1,_,nl,by have h1:=af.o;omega,rfl,by go_num,LN,O6,E6,B6⟩
    · have e1:(x.d==dev)=false:=(by simpa using he);clear he x1;go_wp2_with fail;go_roundg(no - (j+1));case measure=>have h1:=af.o;have h2:=HJ.o;omega
      case rel=>
       go_light;exact⟨j+1,_,l,by have h1:=af.o;omega,rfl,by go_num,zh (Nat.le_succ_of_le L2.o),U3,E2,B3⟩
  · obtain⟨d0,d1⟩:=zk ae;have LQ:Hid (l.length≤20):=zh (by have h1:=L2.o;have h2:=HJ.o;have h3:=NO.o;omega);have Z2:=zh (Z1.below B2.o);clear ae hj q0 HJ L2;go_wp2_with(with_reducible refine zS 27 ?_);refine zh (zL Z2 rfl Zf ?_);go_wp2_with fail;refine(PS.o w2 (aj.trans (B2.mono aj.size))).mono ?_;rintro e w3 ⟨pu,ak,rfl,ho,hp,aU,b3⟩;have O3:=zh ho;have P3:=zh hp;have LP:=zh aU;clear ho hp aU PS Z2 d0 d1;have B3:=zD B2 b3;have U3:=zh (U2.below b3);clear b3 B2 U2;obtain⟨pa,pk,rfl⟩:=O3.slice;obtain⟨np,aP⟩:=zg ak.length;have aQ:=zh aP;rw[aP]at O3 LP ⊢;clear aP;go_wp2_with fail
    go_loopg [4,30] np (fun g s4 aZ wx=>∃(j:Nat) (u:Value) (l:List Sc),j+g=np∧s4=u∧aZ=.int .i64 (j:Int)∧Hid (l.length≤20+j)∧Hid (ax 37 35 scC wx w1.heap.size u l)∧Hid (∀s∈l,ScG cs (oD os dev) dev s)∧
     Hid (ax 122 111 plC wx w2.heap.size (.slice pa np pk) ak)∧Hid (oI cs vs wx ak)∧Hid (Below w1.heap.size w1 wx))
    case atStart=>exact⟨0,_,l,by omega,rfl,rfl,LQ,U3,E2,O3,P3,B3⟩
    case round=>
     clear U3 E2 O3 P3 B3 LQ l ua uc;obtain⟨j,u,l,hj,rfl,rfl,hL,hU,hE,hO,hP,hB⟩:=hrel;obtain⟨w2,rfl⟩:=zG wr;have HJ:=zh hj;have L2:=hL;have U2:=hU;have E2:=hE;have O2:=hO;have P2:=hP;have B2:=hB;clear hL hU hE hO hP hB;obtain⟨ua,uc,rfl⟩:=U2.slice;have q0:=Ye j;by_cases ae:j < np
     · obtain⟨d0,d1,q2,-⟩:=zl ae;have af:=zh ae;have aY:=zw  ((j:Int)+1) (by have :=LP.o;have :=MM.o;omega)
       have SP:aN 111 w2 (.slice pa np pk) np (fun i=>plC (ak.getD i mf)):=by
        have h:=ax.at1 mf (by decide) (by decide) O2.o (by rw[aQ.o];have :=LP.o;have :=MM.o;omega);rwa[aQ.o]at h
       obtain⟨bb,bo,rfl,ai,aC,ay⟩:=SP.aI ae;have CB:=zh (fun q hq=>ay j ae q hq);have az:j < ak.length:=(by rw[aQ.o];exact ae);have PO:=zh (P2.o _ (aK (d:=mf) az));obtain⟨a,ha⟩:=zg (ak.getD j mf);rw[ha]at CB PO;clear ae SP ai aC ay ha az hj;go_upto_region 9 with fail;go_wp2_with(with_reducible refine zS 33 ?_);refine zh (zE bb (bo+j*111) rfl Zk bo j (by rw[Ym]) (plC a) CB.o ?_);clear CB d0 d1 q0 q2;have Zr:=zh (ag.new w2 122 111 (plC mf));go_upto_region 10 with((with_reducible refine zN ?_);refine zV Zr rfl (plC a) rfl Zk (fun j _=>uK _ j) ?_;intro w3 A3 o3);have b3:Below w2.heap.size w2 w3:=zO o3;have B3:=zD B2 b3;have U3:=zh (U2.below b3);have O3:=zh (O2.below b3);have P3:=zh (P2.below b3);clear b3 o3 Zr B2 U2 O2 P2;have x0:w3.cell? ⟨w2.heap.size,34,none⟩=some (.int .i64 a.1.c.au):=A3.cell (i:=34) (by decide);by_cases he:a.1.c.au=dev
       · have KK:=zh (fun W=>kV a.1.x.last 0 W)
         have GK:Hid (ScG cs (oD os dev) dev (bY a.1.x.last 0)):=zh (by
          obtain⟨g,hp,_⟩:=PO.pl
          exact⟨mY PO.xw.last (fB (by decide) (by decide)),VJ hp he⟩)
         obtain⟨xd,aA⟩:=zg a.1.c.au;rw[aA]at x0 he;have e1:(xd==dev)=true:=(by simpa using he);clear he aA;have LL:Hid (l.length+1≤1000000):=zh (by have h1:=L2.o;have h2:=af.o;have h3:=LP.o;have h4:=MM.o;omega);go_wp2_with(with_reducible refine zS 42 ?_);refine zh (zP A3 77 rfl YQ (dgC a.1.x.last) (by decide) (Dw a) ?_);go_wp2_with fail;refine(KK.o w3).mono ?_;rintro e w4 ⟨rfl,b4⟩;clear x0;have B4:=zD B3 b4;have U4:=zh (U3.below b4);have O4:=zh (O3.below b4);have P4:=zh (P3.below b4);clear b4 B3 U3 O3 P3 A3;go_wp2_with(with_reducible refine zS 44 ?_);refine zh (aS (s:=35) (c:=scC) rfl 32 1 _ rfl sc0 [bY a.1.x.last 0] rfl (by decide) (by decide) (by decide) (by decide) rfl Tryz.underlying32 (by kernel_rfl) (by kernel_rfl) ?_);intro w5 V5 h5 L5;have b5:=h5.o;have B5:=zD B4 b5;have U5:=zh (U4.below b5);have O5:=zh (O4.below b5);have P5:=zh (P4.below b5);clear b5 B4 U4 O4 P4;clear h5 L5
         go_wp2_with(with_reducible refine zS 45 ?_);refine zh ?_;refine bK rfl (.tmp 39) (.tmp 44) nV Tryz.underlying32 rfl (by decide) (by decide) (fun u j=>eG u j) sc0 rfl w1.heap.size _ l rfl U5.o _ [bY a.1.x.last 0] rfl (ax.at1 sc0 (by decide) (by decide) V5.o (by rw[Yj];decide)) (by have h1:=LL.o;rw[Yj];omega) B5.size ?_;intro v6 w6 O6 s6;have bf:=zh (O5.beside U5.o (by decide) s6.o);have P6:=zh (P5.own U5.o (by decide) (by decide) s6.o);have B6:=zh (B5.trans (aO s6.o B5.size (fun q hq=>(U5.lt q hq).1)))
         have E6:Hid (∀s∈l++[bY a.1.x.last 0],ScG cs (oD os dev) dev s):=zh (fun s hs=>by
          rcases Yt.1 hs with h | h
          · exact E2.o s h
          · rw[Yp.1 h];exact GK.o)
         obtain⟨va,vc,rfl⟩:=O6.slice;have LN:Hid ((l++[bY a.1.x.last 0]).length≤20+(j+1)):=zh (by rw[Yf,Yj];have h1:=L2.o;omega);obtain⟨nl,aB⟩:=zg (l++[bY a.1.x.last 0]);rw[aB]at O6 E6 LN ⊢;clear s6 U5 V5 B5 aB KK;go_wp2_with fail;go_roundg(np - (j+1));case measure=>have h1:=af.o;have h2:=HJ.o;omega
         case rel=>
          go_light;exact⟨j+1,_,nl,by have h1:=af.o;omega,rfl,by go_num,LN,O6,E6,bf,P6,B6⟩
       · have e1:(a.1.c.au==dev)=false:=(by simpa using he);clear he;go_wp2_with fail;go_roundg(np - (j+1));case measure=>have h1:=af.o;have h2:=HJ.o;omega
         case rel=>
          go_light;exact⟨j+1,_,l,by have h1:=af.o;omega,rfl,by go_num,zh (Nat.le_succ_of_le L2.o),U3,E2,O3,P3,B3⟩
     · obtain⟨d0,d1⟩:=zk ae;have LQ:Hid (l.length≤100):=zh (by have h1:=L2.o;have h2:=HJ.o;have h3:=LP.o;have h4:=MM.o;omega);have SR:=zh (oU l ua uc w2 (ax.at1 sc0 (by decide) (by decide) U2.o (by have h1:=LQ.o;omega)) (by have h1:=LQ.o;omega) (fun x hx=>(E2.o x hx).1));clear ae hj q0 HJ L2;go_wp2_with fail;refine SR.mono ?_;rintro e w3 ⟨u',l',rfl,ho,hm,hl,b3⟩;have O3:=zh ho;have E3:=zh (fun s hs=>E2.o s ((hm s).1 hs));have L3:=zh (Yc hl LQ.o);have BZ:=zh (aj.trans ((B2.trans (b3.mono B2.size)).mono aj.size));have LZ:=zh (Yc LW.o B2.size);clear ho hm hl b3 SR;go_wp2_with fail;go_ret;exact⟨u',l',rfl,O3.mono LZ.o,E3.o,L3.o,BZ.o⟩
abbrev TU:TypeId:=64
abbrev TUM:TypeId:=62
def usC(u:Int×Int)(j:Nat):Value:=if j=0 then .int .i64 u.1 else .int .i64 u.2
abbrev usA(u:Int×Int):Value:=.agg (ah 2 (usC u))
theorem KH{u v:Int×Int}(h:usA u=usA v):u=v:=by
 obtain⟨a,b⟩:=u;obtain⟨c,d⟩:=v;have h1:(#[Value.int .i64 a,.int .i64 b]:Array Value)= #[.int .i64 c,.int .i64 d]:=(by injection h);injection h1 with h1;injection h1 with h2 h3;injection h3 with h3 _;injection h2 with _ h2;injection h3 with _ h3;rw[h2,h3]
theorem Wn(u:Int×Int)(j:Nat):(usC u j).oneCell'=true:=dh rfl rfl
theorem VD(W:World):(zeroValue TU).run Tryz.prog W=.ok (usA (0,0)) W:=by kernel_rfl
theorem Vw(a b:Int×Int)(w:World):(Op.equalIn 10000 TU (usA a) (usA b)).run Tryz.prog w=.ok (a.1==b.1&&a.2==b.2) w:=by
 rw[run_equalIn_agg w 9999 TU _ _ (by kernel_rfl) (by kernel_rfl)];unfold Program.fieldsOf;rw[Tryz.underlying64];have h0:∀x y:Int,(Op.equalIn 9999 3 (.int .i64 x) (.int .i64 y)).run Tryz.prog w=.ok (x==y) w:=fun x y=>run_equalIn_int w 9998 3 .i64 .i64 x y Tryz.underlying3;have p0:∀c:Int×Int,(part 3 (ah 2 (usC c)) 0).run Tryz.prog w=.ok (.int .i64 c.1) w:=fun c=>(by kernel_rfl);have p1:∀c:Int×Int,(part 3 (ah 2 (usC c)) 1).run Tryz.prog w=.ok (.int .i64 c.2) w:=fun c=>(by kernel_rfl);show Sem.run _ (Op.eqFields _ _ _ (_::_::[])) w=_;rw[DR (by decide) (p0 a) (p0 b) (h0 _ _),DR (by decide) (p1 a) (p1 b) (h0 _ _),WS];cases(a.1==b.1)<;>cases(a.2==b.2)<;>rfl
theorem eql_us(a b:Int×Int)(w:World):(binOp .eql TU (usA a) (usA b)).run Tryz.prog w=.ok (.bool (a.1==b.1&&a.2==b.2)) w:=by rw[run_eql_struct,Vw a b];rfl
theorem Rh(op:BinOp)(x y:Operand)(a b:Int×Int)(w:World):(eqGuard op TU x y (usA a) (usA b)).run Tryz.prog w=.ok () w:=run_eqGuard_agg w op TU x y _ _ (by kernel_rfl)
abbrev UsM(w:World)(r:Nat)(m:List (Int×Value)):Prop:=KM.At encI anyI w r m
structure UsP(m:List (Int×Value))(P:List Us):Prop where
 ty:∀y v,KM.get m y=some v→∃u,v=usA u
 iff':∀y u,(y,u)∈P↔KM.get m y=some (usA u)
theorem UsP.nil:UsP [] []:=⟨(fun y v h=>by cases h),(fun y u=>⟨(fun h=>by cases h),(fun h=>by cases h)⟩)⟩
theorem UsP.put{m:List (Int×Value)}{P:List Us}(h:UsP m P){y:Int}{u:Int×Int}(hq:KM.get m y=none∨KM.get m y=some (usA u)):UsP (KM.put m y (usA u)) ((y,u)::P):=by
 refine⟨fun z v hz=>?_,fun z t=>?_⟩
 · rw[KM.get_put]at hz;split at hz
   · exact⟨u,(Yx hz).symm⟩
   · exact h.ty z v hz
 · rw[KM.get_put,List.mem_cons];by_cases e:z=y
   · subst e;rw[if_pos rfl,Option.some.injEq];constructor
     · rintro(h1 | h1)
       · injection h1 with _ h1;rw[h1]
       · have h2:=(h.iff' z t).1 h1;rcases hq with hq | hq
         · rw[hq]at h2;cases h2
         · rw[hq]at h2;exact Yx h2
     · intro h1;exact .inl (by rw[KH h1])
   · rw[if_neg e];constructor
     · rintro(h1 | h1)
       · injection h1 with h1 _;exact absurd h1 e
       · exact(h.iff' z t).1 h1
     · exact fun h1=>.inr ((h.iff' z t).2 h1)
theorem UsP.one{m:List (Int×Value)}{P:List Us}(h:UsP m P):∀a∈P,∀b∈P,a.1=b.1→a.2=b.2:=by
 rintro⟨y,u⟩ ha ⟨z,v⟩ hb e;obtain rfl:y=z:=e;have h1:=(h.iff' y u).1 ha;have h2:=(h.iff' y v).1 hb;rw[h1]at h2;exact KH (Yx h2)
structure OncO(y:Int)(u:Int×Int)(ub:Nat)(m:List (Int×Value))(P:List Us)(w w':World)(e:Ending):Prop where
 ex:∃r,e=.returned (.bool r)∧UsM w' ub (KM.put m y (usA u))∧aG ub w w'∧(r=true→UsP (KM.put m y (usA u)) ((y,u)::P))
theorem vG(y:Int)(u:Int×Int)(UB ub:Nat)(m:List (Int×Value))(P:List Us)(w:World)(hU:ag w UB TUM 1 (fun _=>.map (some ub)))(hm:UsM w ub m)(hp:UsP m P):
 Calls Tryz.prog 12 #[.int .i64 y,usA u,.pointer (some ⟨UB,0,none⟩)] w fun e w'=>OncO y u ub m P w w' e:=by
 have U0:=zh hU;have M0:=zh hm;have HP:=zh hp;have LU:=zh hm.lt;clear hU hm hp;go_in;have B0:=zh (Yb w.heap.size w);go_upto_region 1 with fail;obtain⟨w1,ae,b1,z1,X1⟩:=zW w TU 2 (usC u);rw[ae];(try rw[z1]);have B1:=zD B0 b1;have U1:=zh (U0.below b1);have M1:=zh (M0.below b1);clear b1 ae z1 B0 U0 M0;have u0:w1.cell? ⟨UB,0,none⟩=some (.map (some ub)):=U1.cell (i:=0) (by decide);have LX:=zh (show w.heap.size < w1.heap.size from X1.lt);go_wp2_with(with_reducible refine zS 11 ?_);refine zh (KM.dJ kyI rfl TUM TU (.tmp 9) (.tmp 10) true rfl y trivial rfl rfl M1.o Tryz.underlying62 VD ?_);rw[if_pos rfl];clear u0
 have GV:Hid (∃vv,(KM.get m y).getD (usA (0,0))=usA vv∧((KM.get m y).isSome=false→KM.get m y=none)∧((KM.get m y).isSome=true→KM.get m y=some (usA vv))):=zh (by
  cases hg:KM.get m y with
  | none=>exact⟨(0,0),rfl,(fun _=>rfl),(fun h=>by cases h)⟩
  | some v=>
    obtain⟨t,rfl⟩:=HP.ty y v hg
    exact⟨t,rfl,(fun h=>by cases h),(fun _=>rfl)⟩)
 obtain⟨vv,af,ah,ai⟩:=GV.o;rw[af];have aj:=zh ah;have ak:=zh ai;obtain⟨q,hq⟩:=zg ((KM.get m y).isSome);rw[hq]at aj ak ⊢;clear GV af ah ai hq;have Zr:=zh (ag.new w1 TU 2 (usC (0,0)));go_upto_region 2 with((with_reducible refine zN ?_);refine qH (o:=⟨none,.store TU (.tmp 6) (.tmp 12),_,_,_,_⟩) rfl TU (.tmp 6) (.tmp 12) rfl w1.heap.size rfl 2 TU _ (usC vv) rfl Zr.o (by kernel_rfl) (fun j _=>Wn _ j) ?_;intro w2 V2 o2);have b2:Below w1.heap.size w1 w2:=zO o2;have B2:=zD B1 b2;have U2:=zh (U1.below b2);have M2:=zh (M1.below b2);have X2:=zh (X1.below b2);clear b2 o2 Zr B1 U1 M1 X1;have u0:w2.cell? ⟨UB,0,none⟩=some (.map (some ub)):=U2.cell (i:=0) (by decide);go_wp2_with(with_reducible refine zS 16 ?_);refine zh (zL X2 rfl zU64 ?_);go_wp2_with(with_reducible refine zn ?_);refine zh (KM.di kyI rfl TUM TU (.tmp 14) (.tmp 15) (.tmp 16) rfl y trivial (usA u) rfl rfl rfl M2.o Tryz.underlying62 ?_)
 intro w3 M3 o3;have au:w.heap.size≠ub:=Nat.ne_of_gt LU.o;have ax:w1.heap.size≠ub:=(by have h1:=LU.o;have h2:=LX.o;omega);have X3:=zh (o3.row au X2.o);have V3:=zh (o3.row ax V2.o);have OB:=zh ((aG.of_below (B:=ub) B2.o).trans o3.o);clear u0 o3 au ax X2 V2 B2 U2 M2
 cases q with
 | false=>
   have HR:=zh (HP.put (u:=u) (.inl (aj.o (by first | rfl | trivial))));go_wp2_with fail;go_ret;exact⟨⟨true,rfl,M3.o,OB.o,fun _=>HR.o⟩⟩
 | true=>
   have HG:Hid (KM.get m y=some (usA vv)):=zh (ak.o (by first | rfl | trivial));have HE:=zh (fun W=>eql_us vv u W);have HU:=zh (fun W=>Rh .eql (.tmp 20) (.tmp 21) vv u W)
   have HR:Hid ((vv.1==u.1&&vv.2==u.2)=true→UsP (KM.put m y (usA u)) ((y,u)::P)):=zh (fun h=>by
    rw[Bool.and_eq_true,beq_iff_eq,beq_iff_eq]at h;obtain rfl:vv=u:=Prod.ext h.1 h.2
    exact HP.put (.inr HG.o))
   obtain⟨r,hr⟩:=zg ((vv.1==u.1&&vv.2==u.2));rw[hr]at HE HR;clear hr;have e1:=HE.o;have e2:=HU.o;go_wp2_with(with_reducible refine zS 20 ?_);refine zh (aX rfl ?_);refine zL V3 rfl zU64 ?_;go_wp2_with(with_reducible refine zS 21 ?_);refine zh (aX rfl ?_);refine zL X3 rfl zU64 ?_;go_wp2_with fail;go_ret;exact⟨⟨r,rfl,M3.o,OB.o,HR.o⟩⟩
structure tJ(cs:List Cm)(i:Nat)(P:List Us):Prop where
 ids:∀j,j < i→∀k,k < j→cs.getD k cm0=cs.getD j cm0∨aV (cs.getD j cm0)≠aV (cs.getD k cm0)
 rep:∀j,j < i→(∃k,k < j∧cs.getD k cm0=cs.getD j cm0)∨((∀(k:Nat) y,(cs.getD j cm0).pth[k]? =some y→(y,((j:Int),(k:Int)))∈P)∧∀ch∈(cs.getD j cm0).chs,ch.k≠2→(ch.p,((-1:Int),ch.d))∈P)
theorem tJ.mono{cs:List Cm}{i:Nat}{P Q:List Us}(h:tJ cs i P)(hs:∀a∈P,a∈Q):tJ cs i Q:=
 ⟨h.ids,fun j hj=>(h.rep j hj).imp id (fun⟨h1,h2⟩=>⟨fun k y hk=>hs _ (h1 k y hk),fun ch hc hk=>hs _ (h2 ch hc hk)⟩)⟩
theorem tJ.zero(cs:List Cm)(P:List Us):tJ cs 0 P:=⟨fun j hj=>absurd hj (Nat.not_lt_zero j),fun j hj=>absurd hj (Nat.not_lt_zero j)⟩
theorem tJ.succ{cs:List Cm}{i:Nat}{P:List Us}(h:tJ cs i P)(h1:∀k,k < i→cs.getD k cm0=cs.getD i cm0∨aV (cs.getD i cm0)≠aV (cs.getD k cm0))
 (h2:(∃k,k < i∧cs.getD k cm0=cs.getD i cm0)∨((∀(k:Nat) y,(cs.getD i cm0).pth[k]? =some y→(y,((i:Int),(k:Int)))∈P)∧∀ch∈(cs.getD i cm0).chs,ch.k≠2→(ch.p,((-1:Int),ch.d))∈P)):tJ cs (i+1) P:=by
 refine⟨fun j hj=>?_,fun j hj=>?_⟩
 · rcases Nat.lt_succ_iff_lt_or_eq.1 hj with hj | rfl
   · exact h.ids j hj
   · exact h1
 · rcases Nat.lt_succ_iff_lt_or_eq.1 hj with hj | rfl
   · exact h.rep j hj
   · exact h2
structure AptO(w w':World)(cs:List Cm)(os:List Ow)(dev:Int)(e:Ending):Prop where
 ex:∃b,e=.returned (.bool b)∧(b=true→∃P,ApK cs cs.length P∧∀y,oD os dev y→(y,((-1:Int),dev))∈P)∧Below w.heap.size w w'
structure UsS(UB ub n:Nat)(m:List (Int×Value))(P:List Us)(w W:World):Prop where
 ma:UsM W ub m
 p:UsP m P
 u:ag W UB TUM 1 (fun _=>.map (some ub))
 b:Below n w W
 nw:n≤w.heap.size
 l:n≤ub
 ne:UB≠ub
theorem UsS.below{UB ub n:Nat}{m:List (Int×Value)}{P:List Us}{w W W':World}(h:UsS UB ub n m P w W)(b:Below W.heap.size W W'):UsS UB ub n m P w W':=⟨h.ma.below b,h.p,h.u.below b,h.b.trans (b.mono (Yc h.nw h.b.size)),h.nw,h.l,h.ne⟩
theorem UsS.once{UB ub n:Nat}{m m':List (Int×Value)}{P P':List Us}{w W W':World}(h:UsS UB ub n m P w W)(hm:UsM W' ub m')(hp:UsP m' P')(o:aG ub W W'):UsS UB ub n m' P' w W':=⟨hm,hp,o.row h.ne h.u,h.b.trans (o.below h.l (Yc h.nw h.b.size)),h.nw,h.l,h.ne⟩
theorem Nj(dev:Int)(fs:List Fo)(os:List Ow)(cs:List Cm)(f o v:Hd)(vs:Nat→CmV)(w:World)(hr:uj w f o v fs os cs vs)(hw:RcW fs os cs):
 Calls Tryz.prog 6 #[.agg (ah 8 (reC f o v)),.int .i64 dev] w fun e w'=>AptO w w' cs os dev e:=by
 have RE:=zh hr;have RW:=zh hw;obtain⟨ob,ok,bW⟩:=hr.ow.slice;have SO:=hr.ow;rw[bW]at SO;have SX:=zh SO;obtain⟨va,vk,bY⟩:=hr.cs.at'.slice;have SC:=hr.cs.at';rw[bY]at SC;have SV:=zh SC;have NO:Hid (os.length≤20):=zh hw.ol;have NC:Hid (cs.length≤7):=zh hw.cw.len;obtain⟨rc,bQ⟩:=zg (reC f o v);have r1:rc 1=.slice ob os.length ok:=(by rw[←bQ];exact bW);have r2:rc 2=.slice va cs.length vk:=(by rw[←bQ];exact bY);rw[bQ];obtain⟨no,bZ⟩:=zg os.length;have fO:=zh bZ;rw[bZ]at SX NO r1;obtain⟨nc,cu⟩:=zg cs.length;have cO:=zh cu;rw[cu]at SV NC r2;have R1:=zh r1;have R2:=zh r2;clear hr hw bQ SO SC bW bY bZ cu r1 r2;have gV:=zM Tryz.prog;have fP:=fun W=>run_makeMap_plain (w:=W) (P:=Tryz.prog) TUM;have eg:=enters_of Tryz.func12 (by kernel_rfl) rfl;go_in;have B0:=zh (Yb w.heap.size w);go_upto_region 1 with fail;obtain⟨w1,dN,b1,z1,Z1⟩:=zW w 31 8 rc;rw[dN];(try rw[z1]);have B1:=zD B0 b1;clear b1 dN z1 B0
 have aH:=B1;clear B1;have B1:Hid (Below w1.heap.size w1 w1):=zh (Yb _ _);go_upto_region 2 with fail;clear fP;obtain⟨w2,bC⟩:=zg (w1.alloc (.map #[] 0));have b2:Below w1.heap.size w1 w2:=(by rw[←bC];exact(Yb _ _).alloc (Ya _) _);have M2:Hid (KM.At encI anyI w2 w1.heap.size []):=zh (by rw[←bC];exact KM.At.made encI anyI w1);have z2:w1.heap.size+1=w2.heap.size:=(by rw[←bC];exact(Array.size_push _).symm);rw[bC];(try rw[z2]);have B2:=zD B1 b2;clear b2 bC z2 B1;have LM:=zh M2.lt;obtain⟨w3,dO,b3,z3,U3⟩:=zQ w2 (.cells #[.map (some w1.heap.size)] TUM) TUM 1 (fun _=>.map (some w1.heap.size)) rfl;rw[dO];(try rw[z3]);have B3:=zD B2 b3;have M3:=zh (M2.below b3);clear b3 dO z3 B2 M2;have S3:Hid (UsS w2.heap.size w1.heap.size w1.heap.size [] [] w1 w3):=zh ⟨M3.o,UsP.nil,U3.o,B3.o,Ya _,Ya _,Nat.ne_of_gt LM.o⟩;obtain⟨UB,dP⟩:=zg w2.heap.size;obtain⟨ub,cZ⟩:=zg w1.heap.size;have aK:=zh cZ;rw[dP,cZ]at S3 ⊢
 clear M3 U3 B3 dP cZ;go_wp2_with fail;go_loopg [7] nc (fun g s7 wx=>∃(i:Nat) (m:List (Int×Value)) (P:List Us),i+g=nc∧s7=.int .i64 (i:Int)∧Hid (UsS UB ub ub m P w1 wx)∧Hid (tJ cs i P));case atStart=>exact⟨0,[],[],by omega,rfl,S3,zh (tJ.zero _ _)⟩
 case round=>
  clear S3;obtain⟨i,m,P,hi,rfl,hS,hA⟩:=hrel;obtain⟨w4,rfl⟩:=zG wr;have HI:=zh hi;have S4:=hS;have A4:=hA;have dQ:Hid (ub < w4.heap.size):=zh S4.ma.lt;clear hS hA;have df:=zh (show Below w1.heap.size w1 w4 from by rw[aK.o];exact S4.b);have Z4:=zh (Z1.below df.o);have c2:w4.cell? ⟨w.heap.size,2,none⟩=some (.slice va nc vk):=(Z4.cell (i:=2) (by decide)).trans (congrArg some R2.o);have q0:=Ye i;by_cases aO:i < nc
  · obtain⟨d0,d1,q2,-⟩:=zl aO;have bD:=zh aO;have gW:=zw  ((i:Int)+1) (by have :=NC.o;omega);have fQ:=zD aH df.o;obtain⟨bl,ol,rfl,dh,di,dm⟩:=SV.aI aO;have dR:=zh di;have CA:=zh (fun j (hj:j < nc) q hq=>dm j hj q hq);have CL:=zh (fun q hq=>(fQ.cell (p:=⟨bl,ol+73*i+q,none⟩) di).trans (dm i aO q hq));have dn:i < cs.length:=(by rw[cO.o];exact aO);have KE:=zh (RE.cs.each i dn);have WI:=zh (RW.cw.get dn);obtain⟨c,hc⟩:=zg (cs.getD i cm0);obtain⟨cv,dS⟩:=zg (vs i);have HC:=zh hc;rw[hc]at CL KE WI;rw[dS]at CL KE;clear aO dh di dm dn hc dS hi;go_upto_region 6 with fail;have B4:Hid (Below w4.heap.size w4 w4):=zh (Yb _ _);go_wp2_with(with_reducible refine zS 27 ?_);refine zh (zE bl (ol+i*73) rfl YU ol i (by rw[Ym]) (cmC c cv) CL.o ?_);clear CL;have Zr:=zh (ag.new w4 71 73 (cmC cm0 cv0))
    go_upto_region 7 with((with_reducible refine zN ?_);refine zV Zr rfl (cmC c cv) rfl YU (fun j _=>nZ _ _ j) ?_;intro w5 C5 o5);have b5:Below w4.heap.size w4 w5:=zO o5;have S5:=zh (S4.below b5);clear b5 o5 Zr B4 S4;clear c2 d0 d1;have fU:=zh (show Below w1.heap.size w1 w5 from by rw[aK.o];exact S5.b);go_wp2_with fail;go_loopg [9,10] i (fun g s9 fV wx=>∃(k:Nat) (sm:Int),k+g=i∧s9=.int .i64 sm∧fV=.int .i64 (k:Int)∧Hid (sm=(i:Int)∨∃q:Nat,q < i∧sm=(q:Int)∧cs.getD q cm0=c)∧Hid (∀q,q < k→cs.getD q cm0=c∨aV c≠aV (cs.getD q cm0))∧Hid (Below w5.heap.size w5 wx));case atStart=>exact⟨0,(i:Int),by omega,rfl,rfl,zh (.inl rfl),zh (fun q h=>absurd h (Nat.not_lt_zero q)),zh (Yb _ _)⟩
    case round=>
     obtain⟨k,sm,hk,rfl,rfl,bF,dU,hB⟩:=hrel;obtain⟨w6,rfl⟩:=zG wr;have HK:=zh hk;have bT:=bF;have bU:=dU;have B6:=hB;clear bF dU hB;have p0:=Ye k;have bV:=zD fU B6.o;have aN:=zD aH bV.o;by_cases bu:k < i
     · obtain⟨d0,d1,-⟩:=zl bu;have bH:k < nc:=Nat.lt_trans bu bD.o;have p2:(k:Int) < (nc:Int):=Int.ofNat_lt.2 bH;have p3:decide (k < nc)=true:=zt bH;have bI:=zh bu;have gX:=zw  ((k:Int)+1) (by have :=NC.o;omega);have dw:k < cs.length:=(by rw[cO.o];exact bH);have KX:=zh (RE.cs.each k dw);have WX:=zh (RW.cw.get dw);have aP:=zh (Yg dR.o aN.size);have CX:Hid (∀q,q < 73→w6.cell? ⟨bl,ol+k*73+q,none⟩=some (cmC (cs.getD k cm0) (vs k) q)):=zh (fun q hq=>by rw[Ym];exact(aN.cell (p:=⟨bl,ol+73*k+q,none⟩) dR.o).trans (CA.o k bH q hq));obtain⟨x,hx⟩:=zg (cs.getD k cm0);obtain⟨xv,dV⟩:=zg (vs k);have HX:=zh hx;rw[hx]at KX WX CX;rw[dV]at KX CX;have C6:=zh (C5.below B6.o);have Z6:=zh (Z1.below bV.o);have LC:=zh C6.lt;have LZ:=zh Z6.lt;clear bu bH dw hx dV hk;go_upto_region 11 with fail;clear d0 d1
       refine Tc.aA (keep w6.heap.size) 7 [] (.fl 0 (.fl 1 (.fl 2 (.fl 3 (.fl 4 (.fl 5 (.one 6 .done))))))) (by kernel_rfl) (by kernel_rfl) ?_;intro w7 b7 e7;have aS:Hid (Below w6.heap.size w6 w7):=zh b7;clear b7 e7;refine Tc.aj [0,1,2,3,4,5] [_,_,_,_,_,_] rfl ?_;dsimp only[zx,zy,zz];(repeat(go_big_quiet_step(exact fun _=>rfl)));refine zq w4.heap.size 0 rfl 73 YU (cmC c cv) (cmC c cv) (fun W hW=>bG (n:=w6.heap.size) (C6.below aS.o) LC.o hW) (by decide) (fun j _=>by rw[Yl]) ?_;simp only[Act.put,zu];(repeat(go_big_quiet_step(exact fun _=>rfl)));refine zC w.heap.size 2 rfl Zo (.slice (some ⟨bl,ol,none⟩) nc vk) (fun W hW=>aQ (n:=w6.heap.size) (((Z6.below aS.o).cell (i:=2) (by decide)).trans (congrArg some R2.o)) LZ.o hW) ?_;simp only[Act.put,zu];repeat(go_big_quiet_step(exact fun _=>rfl))
       refine ze bl (ol+k*73) rfl YU (cmC x xv) (fun W hW q hq=>aQ (n:=w6.heap.size) ((aS.cell (p:=⟨bl,ol+k*73+q,none⟩) aP.o).trans (CX.o q hq)) aP.o hW) ?_;simp only[Act.put,zu];(repeat(go_big_quiet_step(exact fun _=>rfl)));refine wpQuiet_nil ?_;refine Tc.ae 6 rfl (fun K hK=>?_);have SM:=zh (Jm c x cv xv w7 (KE.below (aN.trans (aS.mono aN.size))) (KX.below (aN.trans (aS.mono aN.size))) WI.1 WI.2 WX.1 WX.2);go_wp2_with fail;refine SM.mono ?_;rintro e w8 ⟨b,rfl,bq,bF⟩;have bb:=bq.mono aS.size;have af:=zh (aS.trans bb);have dW:=zh bF;go_wp2_with fail;refine hK _ _ (az bb) ?_;clear hK K bb bq aS bF SM;refine Tc.aF (l:=[]) rfl (fun K hK=>?_);refine(show wpList _ _ _ [] _ _ from hK _ _ ?_);clear hK K;(try dsimp only[Act.put]);(try simp only[Act.put,zu])
       have dX:Hid (b=true→(∀q,q < k+1→cs.getD q cm0=c∨aV c≠aV (cs.getD q cm0))∧(((k:Nat):Int)=(i:Int)∨∃q:Nat,q < i∧((k:Nat):Int)=(q:Int)∧cs.getD q cm0=c)):=zh (fun h=>by
        have h1:cs.getD k cm0=c:=(by rw[HX.o];exact(dW.o h).symm);refine⟨fun q hq=>?_,.inr ⟨k,bI.o,rfl,h1⟩⟩;rcases Nat.lt_succ_iff_lt_or_eq.1 hq with hq | rfl
        · exact bU.o q hq
        · exact .inl h1)
       have B9:=zD B6 af.o;have aB:=zD aN af.o;have dY:=zh (fun q (hq:q < 73)=>(af.cell (p:=⟨bl,ol+k*73+q,none⟩) aP.o).trans (CX.o q hq));have C9:=zh (C6.below af.o);have Z9:=zh (Z6.below af.o);have dZ:=zh (Yg aP.o af.size);have ed:=zh C9.lt;have eu:=zh Z9.lt;clear af B6 aN bV CX C6 Z6 aP LC LZ;obtain⟨w9,rfl⟩:=zG w8
       cases b with
       | true=>
         obtain⟨eF,eG⟩:=dX.o (by first | rfl | trivial);have N1:=zh eF;have N2:=zh eG;clear eF eG;go_wp2_with fail;go_roundg(i - (k+1));case measure=>have h1:=bI.o;have h2:=HK.o;omega
         case rel=>
          go_light;exact⟨k+1,(k:Int),by have h1:=bI.o;omega,rfl,by go_num,N2,N1,B9⟩
       | false=>
         have CX:=dY;have aP:=dZ;have LC:=ed;have LZ:=eu;clear dY dZ ed eu dX dW;go_upto_region 13 with fail;refine Tc.aA (keep w9.heap.size) 9 [] (.fl 0 (.fl 2 (.fl 3 (.fl 4 (.fl 5 (.fl 6 (.one 1 (.one 7 (.one 8 .done))))))))) (by kernel_rfl) (by kernel_rfl) ?_;intro eH eP fZ;have ak:Hid (Below w9.heap.size w9 eH):=zh eP;clear eP fZ;refine Tc.aj [0,2,3,4,5,6] [_,_,_,_,_,_] rfl ?_;dsimp only[zx,zy,zz];(repeat(go_big_quiet_step(exact fun _=>rfl)));refine zq w4.heap.size 0 rfl 73 YU (cmC c cv) (cmC c cv) (fun W hW=>bG (n:=w9.heap.size) (C9.below ak.o) LC.o hW) (by decide) (fun j _=>by rw[Yl]) ?_;simp only[Act.put,zu];(repeat(go_big_quiet_step(exact fun _=>rfl)));refine zC w.heap.size 2 rfl Zo (.slice (some ⟨bl,ol,none⟩) nc vk) (fun W hW=>aQ (n:=w9.heap.size) (((Z9.below ak.o).cell (i:=2) (by decide)).trans (congrArg some R2.o)) LZ.o hW) ?_;simp only[Act.put,zu]
         (repeat(go_big_quiet_step(exact fun _=>rfl)));refine ze bl (ol+k*73) rfl YU (cmC x xv) (fun W hW q hq=>aQ (n:=w9.heap.size) ((ak.cell (p:=⟨bl,ol+k*73+q,none⟩) aP.o).trans (CX.o q hq)) aP.o hW) ?_;simp only[Act.put,zu];(repeat(go_big_quiet_step(exact fun _=>rfl)));refine wpQuiet_nil ?_;refine Tc.ae 1 rfl (fun K hK=>?_);have ID:=zh (uH c cv eH (RE.tab.below (aB.trans (ak.mono aB.size))) (KE.below (aB.trans (ak.mono aB.size))) WI.1 WI.2);go_wp2_with fail;refine ID.mono ?_;rintro e gm ⟨rfl,bq⟩;have bb:=bq.mono ak.size;have aC:=zh (ak.trans bb);go_wp2_with fail;refine hK _ _ (az bb) ?_;clear hK K bb bq ak ID;refine Tc.ae 7 rfl (fun K hK=>?_);have ID:=zh (uH x xv gm (RE.tab.below (aB.trans (aC.mono aB.size))) (KX.below (aB.trans (aC.mono aB.size))) WX.1 WX.2);go_wp2_with fail;refine ID.mono ?_;rintro e eQ ⟨rfl,bq⟩;have bb:=bq.mono aC.size;have bJ:=zh (aC.trans bb);go_wp2_with fail
         refine hK _ _ (az bb) ?_;clear hK K bb bq aC ID;have EQ:=zh (fun W=>Hu (a:=aV c) (b:=aV x) (jP c) (jP x) W);have GD:=zh (fun W=>jK .eql (.tmp 43) (.tmp 49) (aV c) (aV x) W);have QI:Hid (decide (aV c=aV x)=false→aV c≠aV x):=zh (fun h=>of_decide_eq_false h);obtain⟨qi,eU⟩:=zg (decide (aV c=aV x));rw[eU]at EQ QI;clear eU;have e1:=EQ.o;have e2:=GD.o;refine Tc.ae 8 rfl (fun K hK=>?_);go_wp2_with fail;refine hK _ _ (az (Yb _ _)) ?_;clear hK K e1 e2 EQ GD;refine Tc.aF (l:=[]) rfl (fun K hK=>?_);refine(show wpList _ _ _ [] _ _ from hK _ _ ?_);clear hK K;(try dsimp only[Act.put]);(try simp only[Act.put,zu]);have gp:=zD B9 bJ.o;have WB:=zh (show Below w9.heap.size w9 eQ from bJ.o);obtain⟨wz,rfl⟩:=zG eQ;have dA:=zD aB WB.o
         cases qi with
         | true=>
           go_wp2_with fail;go_ret;exact⟨⟨false,rfl,(fun h=>by cases h),dA.o⟩⟩
         | false=>
           have QN:=zh (QI.o (by first | rfl | trivial))
           have N1:Hid (∀q,q < k+1→cs.getD q cm0=c∨aV c≠aV (cs.getD q cm0)):=zh (fun q hq=>by
            rcases Nat.lt_succ_iff_lt_or_eq.1 hq with hq | rfl
            · exact bU.o q hq
            · exact .inr (by rw[HX.o];exact QN.o))
           go_wp2_with fail;go_roundg(i - (k+1));case measure=>have h1:=bI.o;have h2:=HK.o;omega
           case rel=>
            go_light;exact⟨k+1,sm,by have h1:=bI.o;omega,rfl,by go_num,bT,N1,gp⟩
     · obtain⟨d0,d1⟩:=zk bu;have eX:Hid (∀q,q < i→cs.getD q cm0=cs.getD i cm0∨aV (cs.getD i cm0)≠aV (cs.getD q cm0)):=zh (fun q hq=>by rw[HC.o];exact bU.o q (by omega));have S6:=zh (S5.below B6.o);have C6:=zh (C5.below B6.o);clear bu hk p0 HK bU;by_cases bK:sm=(i:Int)
       · have e0:(sm !=(i:Int))=false:=(by simp[bK]);obtain⟨pa,pk,dB⟩:=KE.2.1.slice;have SP:=KE.2.1;rw[dB]at SP;have PX:=zh SP;have eY:=zh dB;have NP:Hid (c.pth.length≤12):=zh WI.2.2.1;obtain⟨np,dC⟩:=zg c.pth.length;have fB:=zh dC;rw[dC]at PX eY NP;clear SP dB dC bT bK;go_wp2_with fail;go_loopg [11] np (fun g gq wx=>∃(j:Nat) (m:List (Int×Value)) (Q:List Us),j+g=np∧gq=.int .i64 (j:Int)∧Hid (UsS UB ub ub m Q w1 wx)∧Hid (∀a∈P,a∈Q)∧Hid (∀(k:Nat) y,k < j→c.pth[k]? =some y→(y,((i:Int),(k:Int)))∈Q)∧Hid (ag wx w4.heap.size 71 73 (cmC c cv)));case atStart=>exact⟨0,m,P,by omega,rfl,S6,zh (fun a h=>h),zh (fun k y h=>absurd h (Nat.not_lt_zero k)),C6⟩
         case round=>
          clear S6 C6 B6 bV aN;obtain⟨j,m,Q,hj,rfl,hS,aT,bM,hC⟩:=hrel;obtain⟨w7,rfl⟩:=zG wr;have HJ:=zh hj;have S7:=hS;have PQ:=aT;have PT:=bM;have C7:=hC;clear hS aT bM hC;have aZ:=zh (show Below w1.heap.size w1 w7 from by rw[aK.o];exact S7.b);have au:=zD aH aZ.o;have fC:w7.cell? ⟨w4.heap.size,36,none⟩=some (.slice pa np pk):=(C7.cell (i:=36) (by decide)).trans (congrArg some eY.o);have q0:=Ye j;by_cases ai:j < np
          · obtain⟨d0,d1,q2,-⟩:=zl ai;have ay:=zh ai;have fD:=zw  ((j:Int)+1) (by have :=NP.o;omega);obtain⟨bp,op,rfl,aG,aU,aW⟩:=PX.aI ai
            have CP:w7.cell? ⟨bp,op+j,none⟩=some (.int .i64 (c.pth.getD j 0)):=by
             have h:=aW j ai 0 (by decide);rw[Nat.one_mul,Nat.add_zero]at h;exact(au.cell (p:=⟨bp,op+j,none⟩) aU).trans h
            have fE:j < c.pth.length:=(by rw[fB.o];exact ai);have YM:Hid (c.pth[j]? =some (c.pth.getD j 0)):=zh (by rw[Yd,Yh fE];rfl);obtain⟨y,hy⟩:=zg (c.pth.getD j 0);rw[hy]at CP YM;have ON:=zh (vG y ((i:Int),(j:Int)) UB ub m Q w7 S7.u S7.ma S7.p);clear ai aG aU aW fE hy hj;go_wp2_with fail;refine ON.mono ?_;rintro e w8 ⟨⟨r,rfl,bf,o8,bg⟩⟩;have dE:=zh (au.trans (o8.below (Yc aH.size (by rw[aK.o];exact Ya _)) au.size));clear ON fC CP d0 d1
            cases r with
            | false=>
              clear bf o8 bg;go_wp2_with fail;go_ret;exact⟨⟨false,rfl,(fun h=>by cases h),dE.o⟩⟩
            | true=>
              have S8:=zh (S7.once bf (bg rfl) o8);have C8:=zh (o8.row (by have h1:=C7.lt;have h2:=dQ.o;omega) C7.o);have dF:Hid (∀a∈P,a∈(y,((i:Int),(j:Int)))::Q):=zh (fun a ha=>List.mem_cons_of_mem _ (PQ.o a ha))
              have gu:Hid (∀(k:Nat) z,k < j+1→c.pth[k]? =some z→(z,((i:Int),(k:Int)))∈(y,((i:Int),(j:Int)))::Q):=zh (fun k z hk hz=>by
                   rcases Nat.lt_succ_iff_lt_or_eq.1 hk with hk | rfl
                   · exact List.mem_cons_of_mem _ (PT.o k z hk hz)
                   · rw[YM.o]at hz;obtain rfl:=Yx hz;exact List.mem_cons_self)
              clear bf o8 bg;go_wp2_with fail;go_roundg(np - (j+1));case measure=>have h1:=ay.o;have h2:=HJ.o;omega
              case rel=>
                   go_light;exact⟨j+1,_,_,by have h1:=ay.o;omega,by go_num,S8,dF,gu,C8⟩
          · obtain⟨d0,d1⟩:=zk ai
            have fF:Hid (∀(k:Nat) y,c.pth[k]? =some y→(y,((i:Int),(k:Int)))∈Q):=zh (fun k y hk=>PT.o k y (by
             have h1:=(Ys.1 hk).1;rw[fB.o]at h1
             omega) hk)
            clear ai hj PT HJ;go_wp2_with fail;clear fC d0 d1 q0;obtain⟨ha,hk,dG⟩:=KE.1.slice;have SP:=KE.1;rw[dG]at SP;have HX:=zh SP;have bz:=zh dG;have NH:Hid (c.chs.length≤10):=zh WI.2.1;obtain⟨nh,dH⟩:=zg c.chs.length;have gy:=zh dH;rw[dH]at HX bz NH;clear SP dG dH;go_loopg [12] nh (fun g gz wx=>∃(j:Nat) (m:List (Int×Value)) (Q:List Us),j+g=nh∧gz=.int .i64 (j:Int)∧Hid (UsS UB ub ub m Q w1 wx)∧Hid (∀a∈P,a∈Q)∧Hid (∀(k:Nat) y,c.pth[k]? =some y→(y,((i:Int),(k:Int)))∈Q)∧Hid (∀k,k < j→(c.chs.getD k ch0).k≠2→((c.chs.getD k ch0).p,((-1:Int),(c.chs.getD k ch0).d))∈Q)∧Hid (ag wx w4.heap.size 71 73 (cmC c cv)));case atStart=>exact⟨0,_,_,by omega,rfl,S7,PQ,fF,zh (fun k h=>absurd h (Nat.not_lt_zero k)),C7⟩
            case round=>
             clear S7 C7 PQ fF aZ au;obtain⟨j,m,Q,hj,rfl,hS,aT,bM,hCH,hC⟩:=hrel;obtain⟨w7,rfl⟩:=zG wr;have HJ:=zh hj;have S7:=hS;have PQ:=aT;have PT:=bM;have CH:=hCH;have C7:=hC;clear hS aT bM hCH hC;have aZ:=zh (show Below w1.heap.size w1 w7 from by rw[aK.o];exact S7.b);have au:=zD aH aZ.o;have gB:w7.cell? ⟨w4.heap.size,35,none⟩=some (.slice ha nh hk):=(C7.cell (i:=35) (by decide)).trans (congrArg some bz.o);have q0:=Ye j;by_cases ai:j < nh
             · obtain⟨d0,d1,q2,-⟩:=zl ai;have ay:=zh ai;have fD:=zw  ((j:Int)+1) (by have :=NH.o;omega);obtain⟨bp,op,rfl,aG,aU,aW⟩:=HX.aI ai;have CP:Hid (∀q,q < 5→w7.cell? ⟨bp,op+j*5+q,none⟩=some (chC (c.chs.getD j ch0) q)):=zh (fun q hq=>by rw[Ym];exact(au.cell (p:=⟨bp,op+5*j+q,none⟩) aU).trans (aW j ai q hq))
               have aX:Hid (bp≠ub∧bp < w7.heap.size):=zh (by
                   have h1:=aH.size;have h2:=au.size;have h3:=aK.o
                   constructor <;>omega)
               have bP:Hid (w4.heap.size≠ub∧w4.heap.size < w7.heap.size):=zh ⟨Nat.ne_of_gt dQ.o,C7.lt⟩;obtain⟨x,hx⟩:=zg (c.chs.getD j ch0);have dI:=zh hx;rw[hx]at CP
               have fG:Hid (∀Q':List Us,(∀a∈Q,a∈Q')→(x.k≠2→(x.p,((-1:Int),x.d))∈Q')→∀k,k < j+1→(c.chs.getD k ch0).k≠2→((c.chs.getD k ch0).p,((-1:Int),(c.chs.getD k ch0).d))∈Q'):=zh (fun Q' hs hn k hk ax=>by
                   rcases Nat.lt_succ_iff_lt_or_eq.1 hk with hk | rfl
                   · exact hs _ (CH.o k hk ax)
                   · rw[dI.o]at ax ⊢;exact hn ax)
               clear ai aG aU aW hx hj;go_upto_region 24 with fail;clear gB d0 d1;obtain⟨xk,dJ⟩:=zg x.k;have XK:=zh dJ;have K0:Hid (w7.cell? ⟨bp,op+j*5,none⟩=some (.int .i64 xk)):=zh (by rw[←dJ];exact CP.o 0 (by decide));have K1:Hid (w7.cell? ⟨bp,op+j*5+1,none⟩=some (.int .i64 x.d)):=zh (CP.o 1 (by decide));have K2:Hid (w7.cell? ⟨bp,op+j*5+2,none⟩=some (.int .i64 x.p)):=zh (CP.o 2 (by decide));clear dJ CP;by_cases ax:xk=2
               · have e0:(xk !=(2:Int))=false:=(by simp[ax]);have X2:Hid (x.k=2):=zh (by rw[XK.o];exact ax);clear ax;refine Tc.aA (Tc.Rl.stay (fun j=>j≠ub∧j < w7.heap.size)) 25 [] (.fl 0 (.fl 1 (.fl 2 (.fl 3 (.fl 4 (.fl 5 (.fl 6 (.fl 7 (.fl 8 (.fl 9 (.fl 10 (.fl 11 (.fl 12 (.fl 13 (.fl 14 (.fl 15 (.fl 16 (.fl 17 (.fl 18 (.fl 19 (.fl 20 (.one 21 (.one 22 (.fl 23 (.fl 24 .done))))))))))))))))))))))))) (by kernel_rfl) (by kernel_rfl) ?_;intro w8 b8 e8;have af:Hid (Below w7.heap.size w7 w8):=zh b8;clear b8 e8;refine Tc.aj [0,1,2,3,4,5,6,7,8,9,10,11,12,13,14,15,16,17,18,19,20] [_,_,_,_,_,_,_,_,_,_,_,_,_,_,_,_,_,_,_,_,_] rfl ?_;dsimp only[zx,zy,zz];(repeat(go_big_quiet_step(exact fun _=>rfl)));refine zC w4.heap.size 35 rfl Zi (.slice (some ⟨bp,op,none⟩) nh hk) (fun W hW=>((aJ (S:=(fun j=>j≠ub∧j < w7.heap.size)) (C7.below af.o) bP.o hW).cell (i:=35) (by decide)).trans (congrArg some bz.o)) ?_
                 simp only[Act.put,zu];(repeat(go_big_quiet_step(exact fun _=>rfl)));refine zC bp (op+j*5) rfl zC3 (.int .i64 xk) (fun W hW=>(fA (S:=(fun j=>j≠ub∧j < w7.heap.size)) aX.o hW).trans ((af.cell (p:=⟨bp,op+j*5,none⟩) aX.2).trans K0.o)) ?_;simp only[Act.put,zu];(repeat(go_big_quiet_step(exact fun _=>rfl)));refine wpQuiet_nil ?_;refine Tc.ae 21 rfl (fun K hK=>?_);refine dD rfl ?_;refine hK _ _ (fun _ _=>rfl) ?_;clear hK K;(try dsimp only[Act.put]);refine Tc.ae 22 rfl (fun K hK=>?_);refine dD rfl ?_;refine hK _ _ (fun _ _=>rfl) ?_;clear hK K;(try dsimp only[Act.put]);refine Tc.aj [23,24] [_,_] rfl ?_;dsimp only[zx,zy,zz];(try simp only[List.setIfInBounds_toArray,List.set_cons_succ,List.set_cons_zero]);(repeat(go_big_quiet_step(exact fun _=>rfl)));refine wpQuiet_nil ?_;refine Tc.aF (l:=[]) rfl (fun K hK=>?_);refine(show wpList _ _ _ [] _ _ from hK _ _ ?_);clear hK K
                 (try dsimp only[Act.put]);(try simp only[Act.put,zu]);have dK:=zh (fG.o Q (fun a h=>h) (fun h=>absurd X2.o h));have S9:=zh (S7.below af.o);have C9:=zh (C7.below af.o);go_wp2_with fail;go_roundg(nh - (j+1));case measure=>have h1:=ay.o;have h2:=HJ.o;omega
                 case rel=>
                    go_light;exact⟨j+1,_,_,by have h1:=ay.o;omega,by go_num,S9,PQ,PT,dK,C9⟩
               · have e0:(xk !=(2:Int))=true:=(by rw[bne_iff_ne];exact ax);clear ax;refine Tc.aA (Tc.Rl.stay (fun j=>j≠ub∧j < w7.heap.size)) 25 [] (.fl 0 (.fl 1 (.fl 2 (.fl 3 (.fl 4 (.fl 5 (.fl 6 (.fl 7 (.fl 8 (.fl 9 (.fl 10 (.fl 11 (.fl 12 (.fl 13 (.fl 14 (.fl 15 (.fl 16 (.fl 17 (.fl 18 (.fl 19 (.fl 20 (.one 21 (.one 22 (.fl 23 (.fl 24 .done))))))))))))))))))))))))) (by kernel_rfl) (by kernel_rfl) ?_;intro w8 b8 e8;have af:Hid (Below w7.heap.size w7 w8):=zh b8;clear b8 e8;refine Tc.aj [0,1,2,3,4,5,6,7,8,9,10,11,12,13,14,15,16,17,18,19,20] [_,_,_,_,_,_,_,_,_,_,_,_,_,_,_,_,_,_,_,_,_] rfl ?_;dsimp only[zx,zy,zz];(repeat(go_big_quiet_step(exact fun _=>rfl)));refine zC w4.heap.size 35 rfl Zi (.slice (some ⟨bp,op,none⟩) nh hk) (fun W hW=>((aJ (S:=(fun j=>j≠ub∧j < w7.heap.size)) (C7.below af.o) bP.o hW).cell (i:=35) (by decide)).trans (congrArg some bz.o)) ?_;simp only[Act.put,zu]
                 (repeat(go_big_quiet_step(exact fun _=>rfl)));refine zC bp (op+j*5) rfl zC3 (.int .i64 xk) (fun W hW=>(fA (S:=(fun j=>j≠ub∧j < w7.heap.size)) aX.o hW).trans ((af.cell (p:=⟨bp,op+j*5,none⟩) aX.2).trans K0.o)) ?_;simp only[Act.put,zu];(repeat(go_big_quiet_step(exact fun _=>rfl)));refine aY rfl ?_;refine zC w4.heap.size 35 rfl Zi (.slice (some ⟨bp,op,none⟩) nh hk) (fun W hW=>((aJ (S:=(fun j=>j≠ub∧j < w7.heap.size)) (C7.below af.o) bP.o hW).cell (i:=35) (by decide)).trans (congrArg some bz.o)) ?_;simp only[Act.put,zu];(repeat(go_big_quiet_step(exact fun _=>rfl)));refine aY rfl ?_;refine zC bp (op+j*5+2) rfl zC3 (.int .i64 x.p) (fun W hW=>(fA (S:=(fun j=>j≠ub∧j < w7.heap.size)) aX.o hW).trans ((af.cell (p:=⟨bp,op+j*5+2,none⟩) aX.2).trans K2.o)) ?_;simp only[Act.put,zu];(repeat(go_big_quiet_step(exact fun _=>rfl)));refine aY rfl ?_
                 refine zC w4.heap.size 35 rfl Zi (.slice (some ⟨bp,op,none⟩) nh hk) (fun W hW=>((aJ (S:=(fun j=>j≠ub∧j < w7.heap.size)) (C7.below af.o) bP.o hW).cell (i:=35) (by decide)).trans (congrArg some bz.o)) ?_;simp only[Act.put,zu];(repeat(go_big_quiet_step(exact fun _=>rfl)));refine aY rfl ?_;refine zC bp (op+j*5+1) rfl zC3 (.int .i64 x.d) (fun W hW=>(fA (S:=(fun j=>j≠ub∧j < w7.heap.size)) aX.o hW).trans ((af.cell (p:=⟨bp,op+j*5+1,none⟩) aX.2).trans K1.o)) ?_;simp only[Act.put,zu];(repeat(go_big_quiet_step(exact fun _=>rfl)));refine wpQuiet_nil ?_;refine Tc.ae 21 rfl (fun K hK=>?_);go_wp2_with fail;refine hK _ _ (fun _ _=>rfl) ?_;clear hK K;(try dsimp only[Act.put]);refine Tc.ae 22 rfl (fun K hK=>?_);have ON:=zh (vG x.p ((-1:Int),x.d) UB ub m Q w8 (S7.below af.o).u (S7.below af.o).ma S7.p);go_wp2_with fail;refine ON.mono ?_;rintro e w9 ⟨⟨r,rfl,fH,o9,fJ⟩⟩;have M9:=zh fH
                 have O9:=zh o9;have P9:=zh fJ;clear fH o9 fJ ON;go_wp2_with fail;refine hK _ _ (fun k hk=>O9.block k (Yg hk.2 af.size) hk.1) ?_;clear hK K;(try dsimp only[Act.put]);refine Tc.aj [23,24] [_,_] rfl ?_;dsimp only[zx,zy,zz];(try simp only[List.setIfInBounds_toArray,List.set_cons_succ,List.set_cons_zero]);(repeat(go_big_quiet_step(exact fun _=>rfl)));refine wpQuiet_nil ?_;refine Tc.aF (l:=[]) rfl (fun K hK=>?_);refine(show wpList _ _ _ [] _ _ from hK _ _ ?_);clear hK K;(try dsimp only[Act.put]);(try simp only[Act.put,zu]);have aB:=zh (au.trans ((af.mono au.size).trans (O9.below (Yc aH.size (by rw[aK.o];exact Ya _)) (Yc au.size af.size))))
                 cases r with
                 | false=>
                   go_wp2_with fail;go_ret;exact⟨⟨false,rfl,(fun h=>by cases h),aB.o⟩⟩
                 | true=>
                   have S9:=zh ((S7.below af.o).once M9.o (P9.o (by first | rfl | trivial)) O9.o);have C9:=zh (O9.row bP.1 (C7.below af.o));have gG:Hid (∀a∈P,a∈(x.p,((-1:Int),x.d))::Q):=zh (fun a ha=>List.mem_cons_of_mem _ (PQ.o a ha));have gI:Hid (∀(k:Nat) z,c.pth[k]? =some z→(z,((i:Int),(k:Int)))∈(x.p,((-1:Int),x.d))::Q):=zh (fun k z hz=>List.mem_cons_of_mem _ (PT.o k z hz));have dK:=zh (fG.o ((x.p,((-1:Int),x.d))::Q) (fun a h=>List.mem_cons_of_mem _ h) (fun _=>List.mem_cons_self));go_wp2_with fail;go_roundg(nh - (j+1));case measure=>have h1:=ay.o;have h2:=HJ.o;omega
                   case rel=>
                      go_light;exact⟨j+1,_,_,by have h1:=ay.o;omega,by go_num,S9,gG,gI,dK,C9⟩
             · obtain⟨d0,d1⟩:=zk ai
               have gJ:Hid (∀ch∈c.chs,ch.k≠2→(ch.p,((-1:Int),ch.d))∈Q):=zh (fun ch hc ax=>by
                   obtain⟨q,hq,e⟩:=List.mem_iff_getElem.1 hc;have e2:c.chs.getD q ch0=ch:=(by rw[Yd,Yh hq];exact e);have h1:=gy.o;have h:=CH.o q (by omega) (by rw[e2];exact ax);rw[e2]at h
                   exact h)
               have A7:Hid (tJ cs (i+1) Q):=zh ((A4.mono PQ.o).succ eX.o (.inr (by rw[HC.o];exact⟨PT.o,gJ.o⟩)));clear ai hj CH HJ;go_wp2_with fail;go_roundg(nc - (i+1));case measure=>have h1:=bD.o;have h2:=HI.o;omega
               case rel=>
                   go_light;exact⟨i+1,m,Q,by have h1:=bD.o;omega,by go_num,S7,A7⟩
       · have e0:(sm !=(i:Int))=true:=by rw[bne_iff_ne];exact bK
         have A7:Hid (tJ cs (i+1) P):=zh (A4.succ eX.o (by
          rcases bT.o with h | ⟨q,h1,h2,h3⟩
          · exact absurd h bK
          · exact .inl ⟨q,h1,by rw[HC.o];exact h3⟩))
         clear bK bT;go_wp2_with fail;go_roundg(nc - (i+1));case measure=>have h1:=bD.o;have h2:=HI.o;omega
         case rel=>
          go_light;exact⟨i+1,m,P,by have h1:=bD.o;omega,by go_num,S6,A7⟩
  · obtain⟨d0,d1⟩:=zk aO
    have AK:Hid (∀P':List Us,(∀a∈P,a∈P')→(∀a∈P',∀b∈P',a.1=b.1→a.2=b.2)→ApK cs cs.length P'):=zh (fun P' hs h1=>by
     have h2:=A4.mono hs;have h3:i=cs.length:=(by rw[cO.o];omega);rw[h3]at h2
     exact⟨h1,h2.ids,h2.rep⟩)
    clear aO hi HI A4 q0;go_wp2_with fail;clear c2 d0 d1;go_loopg [13] no (fun g gK wx=>∃(j:Nat) (m:List (Int×Value)) (Q:List Us),j+g=no∧gK=.int .i64 (j:Int)∧Hid (UsS UB ub ub m Q w1 wx)∧Hid (∀a∈P,a∈Q)∧Hid (∀k,k < j→(os.getD k ow0).d=dev→((os.getD k ow0).p,((-1:Int),dev))∈Q));case atStart=>exact⟨0,m,P,by omega,rfl,S4,zh (fun a h=>h),zh (fun k h=>absurd h (Nat.not_lt_zero k))⟩
    case round=>
     clear S4 df Z4;obtain⟨j,m,Q,hj,rfl,hS,aT,fK⟩:=hrel;obtain⟨w7,rfl⟩:=zG wr;have HJ:=zh hj;have S7:=hS;have PQ:=aT;have OW:=fK;clear hS aT fK;have aZ:=zh (show Below w1.heap.size w1 w7 from by rw[aK.o];exact S7.b);have au:=zD aH aZ.o;have Z7:=zh (Z1.below aZ.o);have c1:w7.cell? ⟨w.heap.size,1,none⟩=some (.slice ob no ok):=(Z7.cell (i:=1) (by decide)).trans (congrArg some R1.o);have q0:=Ye j;by_cases ai:j < no
     · obtain⟨d0,d1,q2,-⟩:=zl ai;have ay:=zh ai;have fD:=zw  ((j:Int)+1) (by have :=NO.o;omega);obtain⟨bp,op,rfl,aG,aU,aW⟩:=SX.aI ai;have CP:Hid (∀q,q < 2→w7.cell? ⟨bp,op+j*2+q,none⟩=some (owC (os.getD j ow0) q)):=zh (fun q hq=>by rw[Ym];exact(au.cell (p:=⟨bp,op+2*j+q,none⟩) aU).trans (aW j ai q hq));obtain⟨x,hx⟩:=zg (os.getD j ow0);have dI:=zh hx;rw[hx]at CP
       have fM:Hid (∀Q':List Us,(∀a∈Q,a∈Q')→(x.d=dev→(x.p,((-1:Int),dev))∈Q')→∀k,k < j+1→(os.getD k ow0).d=dev→((os.getD k ow0).p,((-1:Int),dev))∈Q'):=zh (fun Q' hs hn k hk ax=>by
        rcases Nat.lt_succ_iff_lt_or_eq.1 hk with hk | rfl
        · exact hs _ (OW.o k hk ax)
        · rw[dI.o]at ax ⊢;exact hn ax)
       clear ai aG aU aW hx hj;obtain⟨xd,dL⟩:=zg x.d;have XD:=zh dL;have k0:w7.cell? ⟨bp,op+j*2,none⟩=some (.int .i64 xd):=(by rw[←dL];exact CP.o 0 (by decide));have k1:w7.cell? ⟨bp,op+j*2+1,none⟩=some (.int .i64 x.p):=CP.o 1 (by decide);clear dL CP;by_cases bn:xd=dev
       · have e0:decide (xd=dev)=true:=zt bn;have e1:(xd==dev)=true:=(by rw[beq_iff_eq];exact bn);clear bn;have ON:=zh (vG x.p ((-1:Int),dev) UB ub m Q w7 S7.u S7.ma S7.p);go_wp2_with fail;refine ON.mono ?_;rintro e w8 ⟨⟨r,rfl,bf,o8,bg⟩⟩;have dE:=zh (au.trans (o8.below (Yc aH.size (by rw[aK.o];exact Ya _)) au.size));clear ON c1 k0 k1 d0 d1 e0 e1
         cases r with
         | false=>
           clear bf o8 bg;go_wp2_with fail;go_ret;exact⟨⟨false,rfl,(fun h=>by cases h),dE.o⟩⟩
         | true=>
           have S8:=zh (S7.once bf (bg rfl) o8);have dF:Hid (∀a∈P,a∈(x.p,((-1:Int),dev))::Q):=zh (fun a ha=>List.mem_cons_of_mem _ (PQ.o a ha));have dM:=zh (fM.o ((x.p,((-1:Int),dev))::Q) (fun a h=>List.mem_cons_of_mem _ h) (fun _=>List.mem_cons_self));clear bf o8 bg;go_wp2_with fail;go_roundg(no - (j+1));case measure=>have h1:=ay.o;have h2:=HJ.o;omega
           case rel=>
            go_light;exact⟨j+1,_,_,by have h1:=ay.o;omega,by go_num,S8,dF,dM⟩
       · have e0:decide (xd=dev)=false:=zT bn;have e1:(xd==dev)=false:=(by rw[beq_eq_false_iff_ne];exact bn);have dM:=zh (fM.o Q (fun a h=>h) (fun h=>absurd (XD.symm.trans h) bn));clear bn;go_wp2_with fail;go_roundg(no - (j+1));case measure=>have h1:=ay.o;have h2:=HJ.o;omega
         case rel=>
          go_light;exact⟨j+1,_,_,by have h1:=ay.o;omega,by go_num,S7,PQ,dM⟩
     · obtain⟨d0,d1⟩:=zk ai;have gQ:=zh (AK.o Q PQ.o S7.p.one)
       have gU:Hid (∀y,oD os dev y→(y,((-1:Int),dev))∈Q):=zh (by
        rintro y ⟨o,ho,h1,rfl⟩;obtain⟨q,hq,e⟩:=List.mem_iff_getElem.1 ho;have e2:os.getD q ow0=o:=(by rw[Yd,Yh hq];exact e);have h2:=fO.o;have h:=OW.o q (by omega) (by rw[e2];exact h1);rw[e2]at h
        exact h)
       clear ai hj OW HJ;go_wp2_with fail;go_ret;exact⟨⟨true,rfl,(fun _=>⟨Q,gQ.o,gU.o⟩),au.o⟩⟩
theorem yV(b:Option Nat)(w:World):Calls Tryz.prog 29 #[.map b] w fun e w'=>e=.returned (.func (.func 59) #[] #[.pointer (some ⟨w.heap.size,0,none⟩)])∧w'=w.alloc (.cells #[.map b] 91):=by
 have ae:=zM Tryz.prog;go_in;go_wp2_with fail;go_ret;exact⟨rfl,rfl⟩
theorem PG(n B b:Nat)(m:List (Sc×Value))(w:World)(hB:ag w B 91 1 (fun _=>.map (some b)))(hm:KM.At scA ScW w b m):
 tX n Tryz.prog 59 #[.pointer (some ⟨B,0,none⟩)] YE (fun x W=>ScE (fun _=>True) x W) (fun k=>k=b) (fun xs=>xs.Perm (m.map (·.1))) m.length w:=by
 intro l J Fr W hW hJ hN hY h0;show Calls _ _ #[.func (.yield l) #[] #[],.pointer (some ⟨B,0,none⟩)] W _;have M0:=zh (hm.below hW);have B0:=zh (hB.below hW);have HY:=zh hY;have HJ:=zh hJ;have J0:Hid (J [] W):=zh h0;have F0:Hid (Fr W b):=zh (hN b rfl);have x0:W.cell? ⟨B,0,none⟩=some (.map (some b)):=B0.cell (i:=0) (by decide);clear hm hB hW hJ hN hY h0;go_in;go_wp2_with(with_reducible refine zS 5 ?_);refine zh (KM.pY rfl 91 4 (.tmp 4) rfl rfl M0.o Tryz.underlying91 ?_);intro w1 R1 b1;have J1:=zh (HJ.below J0.o b1.o);have K1:=zh (HJ.kf J0.o b1.o);have F1:Hid (Fr w1 b):=zh (K1.same b M0.lt F0.o).2;have I1:Hid (Fr w1 W.heap.size):=zh (HJ.grow _ _ _ _ none J0.o (HJ.fresh _ _ _ J0.o (Ya _)) (bD b1.o) (fun r e=>by cases e));clear b1 M0 J0 x0 F0;go_wp2_with fail;simp only[Act.put,zu]
 go_loopg [] m.length (fun gh wx=>∃(dn:List Sc) (L:List (Sc×Value)),L.length=gh∧Hid ((dn++L.map (·.1)).Perm (m.map (·.1)))∧Hid (KM.Rng scA ScW wx b W.heap.size m L)∧Hid (J dn wx)∧Hid (Fr wx b∧Fr wx W.heap.size)∧Hid (Kf Fr W wx));case atStart=>exact⟨[],m,rfl,zh (List.Perm.refl _),R1,J1,zh ⟨F1.o,I1.o⟩,K1⟩
 case round=>
  clear R1 J1 F1 I1 K1;obtain⟨dn,L,hg,hP,hR,hJ,hF,hK⟩:=hrel;obtain⟨w1,rfl⟩:=zG wr;have HG:=zh hg;clear hg;go_wp2_with(with_reducible refine zS 6 ?_);refine zh (KM.sN rfl (.tmp 5) rfl rfl hR.o ?_ ?_)
  · intro hl
    have FX:Hid (∃xs,xs.Perm (m.map (·.1))∧J xs w1):=zh ⟨dn,by
     have h2:=hP.o
     rwa[hl,List.map_nil,List.append_nil]at h2,hJ.o⟩
    clear hl hR hP hJ HY HJ hF;go_wp2_with fail;go_end0;exact⟨⟨_,rfl⟩,FX.o,hK.o⟩
  · intro w2 a v L' hp R2 O2 he
    have P2:Hid ((dn++[a]++L'.map (·.1)).Perm (m.map (·.1))):=zh (by
     rw[Xa];exact(List.Perm.append_left dn (hp.map (·.1)).symm).trans hP.o)
    have ak:Hid (L.length=L'.length+1):=zh (by rw[hp.length_eq];rfl);have DL:Hid (dn.length < m.length):=zh (by have h:=P2.length_eq;simp at h;omega);obtain⟨es,clock,seen,q1,q2,q3,q4,q5⟩:=hR.2;obtain⟨j2,f2⟩:=HJ.only hJ.o (Ya W.heap.size) q4 rfl O2.o;have J2:=zh j2;have F2:Hid (Fr w2 b∧Fr w2 W.heap.size):=zh ⟨f2 _ hF.1,f2 _ hF.2⟩;have K2:=zh (hK.only O2.o (Ya _) f2);have ah:Hid (b < w2.heap.size∧W.heap.size < w2.heap.size):=zh ⟨R2.at'.lt,R2.lt⟩;clear hp hP hR hJ O2 q1 q2 q3 q4 q5 j2 f2 hF hK;go_upto_region 2 with fail;have B2:Hid (Below w2.heap.size w2 w2):=zh (Yb _ _);have Zr:=zh (ag.new w2 37 35 (scC sc0));go_upto_region 3 with((with_reducible refine zN ?_);refine zV Zr rfl (scC a) rfl YT (fun j _=>eG _ j) ?_;intro w3 X3 o3);have b3:Below w2.heap.size w2 w3:=zO o3;have B3:=zD B2 b3;have R3:=zh (R2.below b3);clear b3 o3 Zr B2 R2;clear he;have J3:=zh (HJ.below J2.o B3.o)
    have ae:=HJ.kf J2.o B3.o;have F3:Hid (Fr w3 b∧Fr w3 W.heap.size):=zh ⟨(ae.same b (ah.1) F2.1).2,(ae.same _ ah.2 F2.2).2⟩;have K3:=zh (K2.trans ae);have ai:=zh (HY.o dn a w3 J3.o trivial DL.o);clear ae J2 K2 F2 B3 ah;refine(wpIn_wide (n:=n)).1 (wpIn_region_lit (bV 2 ?_));simp only[Xe,List.take_zero,Xf,List.drop_zero];go_wp2_with(with_reducible refine zS 11 ?_);refine zh (zL X3 rfl YT ?_);go_wp2_with fail;unfold lF;dsimp only;refine dY rfl (.tmp 10) #[.tmp 11] #[37] rfl l rfl #[scA a] rfl ai.o ?_;clear ai;rintro e w4 ⟨rfl,aj,af⟩;have J4:=zh aj;obtain⟨e1,g1⟩:=af.same b R3.at'.lt F3.1;obtain⟨e2,g2⟩:=af.same _ R3.lt F3.2;have R4:=zh (R3.of_block e1 e2);have F4:Hid (Fr w4 b∧Fr w4 W.heap.size):=zh ⟨g1,g2⟩;have K4:=zh (K3.trans af);clear aj af R3 e1 e2 g1 g2 F3 K3 J3;refine⟨_,rfl,bV 1 ?_⟩;simp only[Xe,List.take_zero,Xf,List.drop_zero];go_wp2_with fail;unfold lF;dsimp only;unfold wpListIn
    go_wp2_with fail;go_roundg L'.length;(case measure=>have h1:=HG.o;have h2:=ak.o;omega);case rel=>exact⟨dn++[a],L',rfl,P2,R4,J4,F4,K4⟩
def KysO(w w':World)(m:List (Sc×Value))(e:Ending):Prop:=∃(u:Value) (xs:List Sc),e=.returned u∧xs.Perm (m.map (·.1))∧ax 37 35 scC w' w.heap.size u xs∧Below w.heap.size w w'
theorem QZ(B b:Nat)(m:List (Sc×Value))(w:World)(hB:ag w B 91 1 (fun _=>.map (some b)))(hm:KM.At scA ScW w b m)(hl:m.length≤1000000):
 Calls Tryz.prog 108 #[.slice none 0 0,.func (.func 59) #[] #[.pointer (some ⟨B,0,none⟩)]] w fun e w'=>KysO w w' m e:=by
 refine(QU (P:=fun _=>True) (enters_of Tryz.func59 (by kernel_rfl) rfl) w w.heap.size (.slice none 0 0) [] (ax.nil _ _) (fun d hd=>by cases hd) (PG 4 B b m w hB hm) (fun k hk=>⟨by rw[hk];exact hm.lt,fun e=>by cases e⟩) (by simpa using hl) (Ya _)).mono ?_;rintro e w' ⟨u,xs,rfl,hs,ho,_,st⟩;exact⟨u,xs,rfl,hs,ho,aO st (Ya _) (fun k e=>by cases e)⟩
theorem Oo(B b:Nat)(m:List (Sc×Value))(w:World)(hB:ag w B 91 1 (fun _=>.map (some b)))(hm:KM.At scA ScW w b m)(hl:m.length≤1000000):
 Calls Tryz.prog 58 #[.func (.func 59) #[] #[.pointer (some ⟨B,0,none⟩)]] w fun e w'=>KysO w w' m e:=by
 have C:=zh (QZ B b m w hB hm hl);clear hB hm hl;go_in;go_wp2_with fail;refine C.mono ?_;rintro e w1 ⟨v,l,rfl,h1,h2,h3⟩;have H1:=zh h1;have H2:=zh h2;have H3:=zh h3;clear h1 h2 h3 C;go_wp2_with fail;go_ret;exact⟨v,l,rfl,H1.o,H2.o,H3.o⟩
theorem yG(B b:Nat)(m:List (Sc×Value))(w:World)(hB:ag w B 91 1 (fun _=>.map (some b)))(hm:KM.At scA ScW w b m)(hl:m.length≤1000000):
 Calls Tryz.prog 28 #[.func (.func 59) #[] #[.pointer (some ⟨B,0,none⟩)],.func (.func 21) #[] #[]] w fun e w'=>KysO w w' m e:=by
 have C:=zh (Oo B b m w hB hm hl);have HL:=zh hl;clear hB hm hl;go_in;go_wp2_with fail;refine C.mono ?_;rintro e w1 ⟨v,l,rfl,h1,h2,h3⟩;have H1:=zh h1;have SO:=zh (yC h2 (by rw[h1.length_eq,Yk];exact HL.o));have H3:=zh h3;have LT:=zh (fun q hq=>(h2.lt q hq).1);obtain⟨va,vk,rfl⟩:=h2.slice;obtain⟨ln,ae⟩:=zg l.length;rw[ae]at SO LT ⊢;clear h1 h2 h3 C ae;go_wp2_with fail;refine SO.mono ?_;rintro e w2 ⟨rfl,l',hp,ho,st⟩;have P2:=zh (hp.trans H1.o);have O2:=zh ho;have B2:=zh (H3.trans (aO st H3.size (fun q hq=>LT.o q hq)));clear hp ho st SO;go_wp2_with fail;go_ret;exact⟨_,l',rfl,P2.o,O2.o,B2.o⟩
structure KnM(w:World)(r:Nat)(m:List (Sc×Value)):Prop where
 at':KM.At scA ScW w r m
 tr:∀p∈m,p.2=.bool true
def inM(m:List (Sc×Value))(s:Sc):Bool:=(KM.get m s).isSome
theorem KnM.val{w:World}{r:Nat}{m:List (Sc×Value)}(h:KnM w r m)(s:Sc):(KM.get m s).getD (.bool false)=.bool (inM m s):=by
 unfold inM
 cases hg:KM.get m s with
 | none=>rfl
 | some v=>rw[h.tr _ (KM.get_mem hg)|>fun e=>(show v=.bool true from e)];rfl
theorem Vq{m:List (Sc×Value)}{s:Sc}(h:inM m s=true):∃v,(s,v)∈m:=by
 unfold inM at h
 cases hg:KM.get m s with
 | none=>rw[hg]at h;cases h
 | some v=>exact⟨v,KM.get_mem hg⟩
theorem KnM.below{w w':World}{r:Nat}{m:List (Sc×Value)}(h:KnM w r m)(b:Below w.heap.size w w'):KnM w' r m:=⟨h.at'.below b,h.tr⟩
theorem KnM.only {w w':World}{r B:Nat}{m:List (Sc×Value)}(h:KnM w r m)(b:aG B w w')(ae:r≠B):KnM w' r m:=⟨h.at'.only b ae,h.tr⟩
theorem Vg{m:List (Sc×Value)}(h:∀p∈m,p.2=.bool true)(s:Sc):∀p∈KM.put m s (.bool true),p.2=.bool true:=by
 intro p hp;rcases List.mem_cons.1 hp with rfl | hp
 · rfl
 · exact h p (List.mem_filter.1 hp).1
theorem XR(m:List (Sc×Value))(s:Sc)(v:Value):(KM.put m s v).length≤m.length+1:=Nat.succ_le_succ (List.length_filter_le _ _)
theorem Kw{P:Sc→Prop}{m:List (Sc×Value)}(h:∀p∈m,P p.1){s:Sc}(hs:P s){v:Value}:∀p∈KM.put m s v,P p.1:=by
 intro p hp;rcases List.mem_cons.1 hp with rfl | hp
 · exact hs
 · exact h p (List.mem_filter.1 hp).1
abbrev TM:TypeId:=91
theorem VX(s:Sc)(KB b:Nat)(m:List (Sc×Value))(w:World)(hK:ag w KB TM 1 (fun _=>.map (some b)))(hm:KnM w b m)(hs:ScW s):
 Calls Tryz.prog 27 #[scA s,.pointer (some ⟨KB,0,none⟩)] w (zr (.bool (!inM m s)) w):=by
 have K0:=zh hK;have M0:=zh hm;have SW:=zh hs;have HV:=zh (hm.val s);obtain⟨q,hq⟩:=zg (inM m s);rw[hq]at HV ⊢;clear hK hm hs hq;go_in;have B0:=zh (Yb w.heap.size w);go_upto_region 1 with fail;obtain⟨w1,ae,b1,z1,S1⟩:=zW w 37 35 (scC s);rw[ae];(try rw[z1]);have B1:=zD B0 b1;have K1:=zh (K0.below b1);have M1:=zh (M0.below b1);clear b1 ae z1 B0 K0 M0;have k0:w1.cell? ⟨KB,0,none⟩=some (.map (some b)):=K1.cell (i:=0) (by decide);go_wp2_with(with_reducible refine zS 5 ?_);refine zh (zL S1 rfl YT ?_);go_wp2_with(with_reducible refine zS 6 ?_);refine zh (KM.dJ kyS rfl TM 4 (.tmp 4) (.tmp 5) false rfl s SW.o rfl rfl M1.at' Tryz.underlying91 pM ?_);rw[if_neg (by decide),HV.o];go_wp2_with fail;go_ret;exact⟨rfl,B1.o⟩
structure L1O(mk mg:List (Sc×Value))(a:DvP)(gb:Nat)(w w':World)(e:Ending):Prop where
 ex:∃(r:Bool) (mg':List (Sc×Value)),e=.returned (.bool r)∧KnM w' gb mg'∧aG gb w w'∧dK w w'∧(mg'=mg∨(r=true∧mg'=KM.put mg a.1.tt (.bool true)∧∀s∈a.1.fr,inM mk s=true))
theorem Gl{gb:Nat}{w w':World}{m:List (Sc×Value)}(h:KnM w gb m)(o:aG gb w w'):dK w w':=by
 obtain⟨_,es,clock,h1,_⟩:=h.at';refine⟨o.size,fun k ob hk hc=>?_⟩;by_cases e:k=gb
 · subst e;rw[h1]at hk;cases hk;cases hc
 · exact(o.block k (Yi.1 hk).1 e).trans hk
theorem l1_any{cs:List Cm}{own:Int→Prop}{dev:Int}(a:DvP)(KB kb GB gb:Nat)(mk mg:List (Sc×Value))(w:World)(hK:ag w KB TM 1 (fun _=>.map (some kb)))(hk:KnM w kb mk)(hG:ag w GB TM 1 (fun _=>.map (some gb)))(hg:KnM w gb mg)(ha:DvA cs own dev a w)(au:gb≠kb):
 Calls Tryz.prog 25 #[.agg (ah 36 (dvC a)),.pointer (some ⟨KB,0,none⟩),.pointer (some ⟨GB,0,none⟩)] w fun e w'=>L1O mk mg a gb w w' e:=by
 have K0:=zh hK;have M0:=zh hk;have G0:=zh hG;have N0:=zh hg;have A0:=zh ha;have TW:=zh ha.tw;have FW:=zh ha.frw;have FL:=zh ha.len;have HV:=zh (hk.val a.1.tt);have ak:=zh hg;obtain⟨q,hq⟩:=zg (inM mk a.1.tt);rw[hq]at HV;obtain⟨fa,fk,ae⟩:=ha.fr.slice;have af:=zh ae;clear hK hk hG hg ha hq ae;have ay:=zM Tryz.prog;go_in;have B0:=zh (Yb w.heap.size w);go_upto_region 1 with fail;obtain⟨w1,ai,b1,z1,D1⟩:=zW w 96 36 (dvC a);rw[ai];(try rw[z1]);have B1:=zD B0 b1;have K1:=zh (K0.below b1);have M1:=zh (M0.below b1);have G1:=zh (G0.below b1);have N1:=zh (N0.below b1);have A1:=zh (A0.below b1);clear b1 ai z1 B0 K0 M0 G0 N0 A0;have k0:w1.cell? ⟨KB,0,none⟩=some (.map (some kb)):=K1.cell (i:=0) (by decide);go_wp2_with(with_reducible refine zS 7 ?_);refine zh (zP D1 1 rfl YT (scC a.1.tt) (by decide) (Qe a) ?_);go_wp2_with(with_reducible refine zS 8 ?_)
 refine zh (KM.dJ kyS rfl TM 4 (.tmp 5) (.tmp 7) false rfl a.1.tt TW.o rfl rfl M1.at' Tryz.underlying91 pM ?_);rw[if_neg (by decide),HV.o]
 cases q with
 | true=>
   go_wp2_with fail;go_ret;exact⟨⟨true,mg,rfl,N1.o,aG.of_below B1.o,dK.of_below B1.o,.inl rfl⟩⟩
 | false=>
   have d0:w1.cell? ⟨w.heap.size,0,none⟩=some (.slice fa a.1.fr.length fk):=(D1.cell (i:=0) (by decide)).trans (congrArg some af.o);have CF:=zh (xO (enters_of Tryz.func27 (by kernel_rfl) rfl) (lb:= #[.pointer (some ⟨KB,0,none⟩)]) (fun i=> !inM mk (a.1.fr.getD i sc0)) a.1.fr.length _ (.slice fa a.1.fr.length fk) w1 (by have h:=ax.at1 sc0 (by decide) (by decide) A1.fr (by have :=FL.o;omega);rwa[af.o]at h) (by have :=FL.o;omega) (fun i W hi hW=>VX (a.1.fr.getD i sc0) KB kb mk W (K1.below hW) (M1.below hW) (FW.o _ (aK hi))))
   have AN:Hid (jF (fun i=> !inM mk (a.1.fr.getD i sc0)) a.1.fr.length=false→∀s∈a.1.fr,inM mk s=true):=zh (fun h s hs=>by
    obtain⟨i,hi,rfl⟩:=List.mem_iff_getElem.1 hs
    cases hz:inM mk a.1.fr[i]with
    | true=>rfl
    | false=>
      have h2:jF (fun i=> !inM mk (a.1.fr.getD i sc0)) a.1.fr.length=true:=yJ.2 ⟨i,hi,by rw[Yd,Yh hi,Option.getD_some,hz];rfl⟩
      rw[h]at h2;cases h2)
   obtain⟨fl,aj⟩:=zg a.1.fr.length;obtain⟨q,hq⟩:=zg (jF (fun i=> !inM mk (a.1.fr.getD i sc0)) fl);rw[aj]at CF AN d0;rw[hq]at CF AN;clear hq aj;go_wp2_with fail;refine CF.mono ?_;rintro e w2 ⟨rfl,b2⟩;clear CF d0 k0;have B2:=zD B1 b2;have G2:=zh (G1.below b2);have N2:=zh (N1.below b2);have D2:=zh (D1.below b2);clear b2 B1 K1 M1 G1 N1 A1 D1
   cases q with
   | true=>
     go_wp2_with fail;go_ret;exact⟨⟨false,mg,rfl,N2.o,aG.of_below B2.o,dK.of_below B2.o,.inl rfl⟩⟩
   | false=>
     have g0:w2.cell? ⟨GB,0,none⟩=some (.map (some gb)):=G2.cell (i:=0) (by decide);go_upto_region 5 with fail;go_wp2_with(with_reducible refine zS 15 ?_);refine zh (zP D2 1 rfl YT (scC a.1.tt) (by decide) (Qe a) ?_);go_wp2_with(with_reducible refine zn ?_);refine zh (KM.di kyS rfl TM 4 (.tmp 13) (.tmp 15) (.const (.bool true)) rfl a.1.tt TW.o (.bool true) rfl rfl rfl N2.at' Tryz.underlying91 ?_);intro w3 N3 o3;have OB:=(aG.of_below (B:=gb) B2.o).trans o3.o;have R3:Hid (L1O mk mg a gb w w3 (.returned (.bool true))):=zh ⟨⟨true,_,rfl,⟨N3.o,Vg N2.tr a.1.tt⟩,OB,Gl ak.o OB,.inr ⟨rfl,rfl,AN.o (by first | trivial | rfl)⟩⟩⟩;clear N3 o3 OB g0 AN;go_wp2_with fail;go_ret;exact R3.o
theorem pO{g:Nat}{lb:Array Value}(eg:∀args w,(callFunc g args).run Tryz.prog w=.ok (.enter g args) w)(w:World):
 Calls Tryz.prog 24 #[.slice none 0 0,.func (.func g) #[] lb] w (zr (.slice none 0 0) w):=by
 have C:=zh (qj (lb:=lb) eg (fun _=>false) 0 (fun _ _=>undef) (.slice none 0 0) w (.inl ⟨⟨none,0,rfl,fun _=>rfl⟩,rfl⟩) (by decide) (fun i W h=>absurd h (Nat.not_lt_zero i)));rw[show iI (fun _=>false) 0= -1 from rfl]at C;go_in;have B0:=zh (Yb w.heap.size w);go_wp2_with fail;refine(C.o).mono ?_;rintro e w1 ⟨rfl,b1⟩;have B1:=zD B0 b1;clear b1 B0;clear C;go_wp2_with fail;go_ret;exact⟨rfl,B1.o⟩
theorem oh{α:Type}:∀(bs:List Bool) (l:List α),∀x∈dm bs l,x∈l
 | b::bs,y::l,x,h=>by
   unfold dm at h
   cases b with
   | true=>exact List.mem_cons_of_mem _ (oh bs l x (by simpa using h))
   | false=>
     rcases List.mem_cons.1 (show x∈y::dm bs l by simpa using h)with rfl | h
     · simp
     · exact List.mem_cons_of_mem _ (oh bs l x h)
 | [],l,x,h=>by simp[dm]at h
 | _::_,[],x,h=>by simp[dm]at h
theorem tu{α:Type}:∀(bs:List Bool) (l:List α),bs.length=l.length→(dm bs l).length+bs.count true=l.length
 | b::bs,y::l,h=>by
   have ih:=tu bs l (by simpa using h);unfold dm
   cases b with
   | true=>simp;omega
   | false=>simp;omega
 | [],[],_=>rfl
 | [],_::_,h=>by cases h
 | _::_,[],h=>by cases h
structure LdO(cs:List Cm)(own:Int→Prop)(dev:Int)(KB kb GB gb bR bl n:Nat)(mk:List (Sc×Value))(ul:Value)(lst:List Sc)(rest:List DvP)(w w':World)(e:Ending):Prop where
 ex:∃(u:Value) (rest':List DvP) (mg:List (Sc×Value)),e=.returned u∧ax 96 36 dvC w' bR u rest'∧elD cs own dev rest' w'∧KnM w' gb mg∧(∀p∈mg,ScG cs own dev p.1)∧mg.length+rest'.length≤rest.length∧KnM w' kb mk∧
  ag w' KB TM 1 (fun _=>.map (some kb))∧ag w' GB TM 1 (fun _=>.map (some gb))∧ax 37 35 scC w' bl ul lst∧Below n w w'∧∀d∈rest',d∈rest
structure LdJ(cs:List Cm)(own:Int→Prop)(dev:Int)(KB kb GB gb bl n:Nat)(mk:List (Sc×Value))(ul:Value)(lst:List Sc)(rest:List DvP)(w:World)(bs:List Bool)(W:World):Prop where
 g:∃mg,KnM W gb mg∧(∀p∈mg,ScG cs own dev p.1)∧mg.length≤bs.count true
 k:KnM W kb mk
 kr:ag W KB TM 1 (fun _=>.map (some kb))
 gr:ag W GB TM 1 (fun _=>.map (some gb))
 e:elD cs own dev rest W
 u:ax 37 35 scC W bl ul lst
 b:Below n w W
theorem aG.GI{n B:Nat}{w W W':World}(h:Below n w W)(hn:n≤w.heap.size)(o:aG B W W')(hb:n≤B):Below n w W':=h.trans (o.below hb (Yc hn h.size))
theorem LdJ.only {cs:List Cm}{own:Int→Prop}{dev:Int}{KB kb GB gb bl n B:Nat}{mk:List (Sc×Value)}{ul:Value}{lst:List Sc}{rest:List DvP}{w W W':World}{bs:List Bool}(h:LdJ cs own dev KB kb GB gb bl n mk ul lst rest w bs W)(hn:n≤w.heap.size)(o:aG B W W')
 (h1:gb≠B) (h2:kb≠B) (h3:KB≠B) (h4:GB≠B) (h5:∀d∈rest,∀q,d.2.v.ownBlock=some q→q≠B) (h6:∀q,ul.ownBlock=some q→q≠B) (h7:n≤B):LdJ cs own dev KB kb GB gb bl n mk ul lst rest w bs W':=by
 obtain⟨mg,g1,g2,g3⟩:=h.g;exact⟨⟨mg,g1.only o h1,g2,g3⟩,h.k.only o h2,o.row h3 h.kr,o.row h4 h.gr,fun d hd=>⟨(h.e d hd).fr.only o (h5 d hd),(h.e d hd).frw,(h.e d hd).tw,(h.e d hd).good,(h.e d hd).len⟩,h.u.only o h6,aG.GI h.b hn o h7⟩
theorem LdJ.below{cs:List Cm}{own:Int→Prop}{dev:Int}{KB kb GB gb bl n:Nat}{mk:List (Sc×Value)}{ul:Value}{lst:List Sc}{rest:List DvP}{w W W':World}{bs:List Bool}(h:LdJ cs own dev KB kb GB gb bl n mk ul lst rest w bs W)(hn:n≤w.heap.size)(b:Below W.heap.size W W'):LdJ cs own dev KB kb GB gb bl n mk ul lst rest w bs W':=by
 obtain⟨mg,g1,g2,g3⟩:=h.g;exact⟨⟨mg,g1.below b,g2,g3⟩,h.k.below b,h.kr.below b,h.gr.below b,fun d hd=>(h.e d hd).below b,h.u.below b,h.b.trans (b.mono (Yc hn h.b.size))⟩
theorem vF{α:Type}{T T':TypeId}{s:Nat}{c:α→Nat→Value}{w:World}{b:Nat}{v:Value}{l:List α}{B n:Nat}{f:Nat→Value}(ae:T≠T')(h:ax T s c w b v l)(r:ag w B T' n f):∀q,v.ownBlock=some q→q≠B:=fun q hq=>bM ae h r q hq
theorem jS{w:World}{r B n:Nat}{T:TypeId}{f:Nat→Value}{m:List (Sc×Value)}(h:KnM w r m)(hr:ag w B T n f):r≠B:=fun e=>by
 subst e;obtain⟨_,es,cl,hb,_⟩:=h.at';rw[show w.heap[r]? =_ from hr]at hb;cases hb
theorem iJ{α:Type}{T:TypeId}{s:Nat}{c:α→Nat→Value}{w:World}{b r:Nat}{v:Value}{l:List α}{m:List (Sc×Value)}(h:KnM w r m)(ho:ax T s c w b v l):∀q,v.ownBlock=some q→q≠r:=fun q hq e=>by
 subst e;obtain⟨_,es,cl,hb,_⟩:=h.at';have :=wG ho _ _ hq hb;cases this
theorem yB{cs:List Cm}{own:Int→Prop}{dev:Int}(KB kb GB gb bR bl n:Nat)(mk:List (Sc×Value))(ul ur:Value)(lst:List Sc)(rest:List DvP)(w:World)
 (hK:ag w KB TM 1 (fun _=>.map (some kb))) (hk:KnM w kb mk) (gk:∀p∈mk,ScG cs own dev p.1) (hG:ag w GB TM 1 (fun _=>.map (some gb))) (hg:KnM w gb []) (hr:ax 96 36 dvC w bR ur rest) (hl:rest.length≤1000000) (he:elD cs own dev rest w)
 (hu:ax 37 35 scC w bl ul lst) (af:gb≠kb) (hn:n≤w.heap.size) (aj:n≤gb) (ak:n≤bR):
 Calls Tryz.prog 24 #[ur,.func (.func 25) #[] #[.pointer (some ⟨KB,0,none⟩),.pointer (some ⟨GB,0,none⟩)]] w fun e w'=>LdO cs own dev KB kb GB gb bR bl n mk ul lst rest w w' e:=by
 have eg:=enters_of Tryz.func25 (by kernel_rfl) rfl;have I0:LdJ cs own dev KB kb GB gb bl n mk ul lst rest w [] w:=⟨⟨[],hg,(fun p hp=>by cases hp),Ya _⟩,hk,hK,hG,he,hu,Yb _ _⟩;by_cases hv:ur=.slice none 0 0
 · subst hv
   have au:rest=[]:=by
    obtain⟨a,k,e⟩:=hr.slice;have h0:rest.length=0:=(Value.slice.inj e).2.1.symm;exact Yz h0
   subst au;refine(pO eg w).mono ?_;rintro e w' ⟨rfl,b⟩;have I1:=I0.below hn b;obtain⟨mg,g1,g2,g3⟩:=I1.g;exact⟨⟨_,[],mg,rfl,ax.nil _ _,I1.e,g1,g2,by simpa using g3,I1.k,I1.kr,I1.gr,I1.u,I1.b,fun d hd=>hd⟩⟩
 obtain⟨b,cap,f,rfl,hc,ah,hm,ae,hf⟩:=hr.OV xg hv;have n1:=jS hg ae;have n2:=jS hk ae
 have n3:KB≠b:=fun e=>by
  subst e;have h:=(show w.heap[KB]? =_ from hK).symm.trans ae;injection h with h;injection h with _ h _;exact absurd h (by decide)
 have n4:GB≠b:=fun e=>by
  subst e;have h:=(show w.heap[GB]? =_ from hG).symm.trans ae;injection h with h;injection h with _ h _;exact absurd h (by decide)
 have n5:∀d∈rest,∀q,d.2.v.ownBlock=some q→q≠b:=fun d hd=>vF (by decide) (he d hd).fr ae;have n6:=vF (by decide) hu ae;have m2:kb≠gb:=Ne.symm af;have m3:KB≠gb:=Ne.symm (jS hg hK);have m4:GB≠gb:=Ne.symm (jS hg hG);have m5:∀d∈rest,∀q,d.2.v.ownBlock=some q→q≠gb:=fun d hd=>iJ hg (he d hd).fr;have m6:=iJ hg hu;refine(pg (c:=dvC) xg (fun u j=>BH u j) eg (fun bs W=>LdJ cs own dev KB kb GB gb bl n mk ul lst rest w bs W) rest b cap bR f w ah hm ae hc hf hl I0 (fun bs W W' h hb=>h.below hn hb) (fun bs W W' h o=>h.only hn o n1 n2 n3 n4 n5 n6 (Yc ak ah)) ?_).mono ?_
 · intro bs W hJ ay;obtain⟨mg,g1,g2,g3⟩:=hJ.g;have hd:=hJ.e _ (aK (d:=xg) ay);refine(l1_any (rest.getD bs.length xg) KB kb GB gb mk mg W hJ.kr hJ.k hJ.gr g1 hd af).mono ?_;rintro e W' ⟨⟨r,mg',rfl,k1,o,ck,hcase⟩⟩
   have hO:LdJ cs own dev KB kb GB gb bl n mk ul lst rest w bs W'→LdJ cs own dev KB kb GB gb bl n mk ul lst rest w (bs++[r]) W':=fun h=>by
    obtain⟨q,q1,q2,q3⟩:=h.g;exact⟨⟨q,q1,q2,by rw[List.count_append];omega⟩,h.k,h.kr,h.gr,h.e,h.u,h.b⟩
   refine⟨r,rfl,?_,ck⟩;have kk:=hJ.k.only o m2;have kr:=o.row m3 hJ.kr;have gr:=o.row m4 hJ.gr;have ke:elD cs own dev rest W':=fun d hd'=>⟨(hJ.e d hd').fr.only o (m5 d hd'),(hJ.e d hd').frw,(hJ.e d hd').tw,(hJ.e d hd').good,(hJ.e d hd').len⟩;have ku:=hJ.u.only o m6;have ai:=aG.GI hJ.b hn o aj;rcases hcase with rfl | ⟨rfl,rfl,hp⟩
   · exact⟨⟨mg',k1,g2,by rw[List.count_append];omega⟩,kk,kr,gr,ke,ku,ai⟩
   · refine⟨⟨_,k1,Kw g2 ⟨hd.tw,hd.good (fun s hs=>?_)⟩,?_⟩,kk,kr,gr,ke,ku,ai⟩
     · obtain⟨v,hv'⟩:=Vq (hp s hs);exact(gk _ hv').2
     · rw[List.count_append];have h1:=XR mg (rest.getD bs.length xg).1.tt (.bool true);have h2:[true].count true=1:=rfl;omega
 · rintro e w' ⟨bs,rfl,az,hO,hJ⟩;obtain⟨mg,g1,g2,g3⟩:=hJ.g;refine⟨⟨_,dm bs rest,mg,rfl,hO,fun d hd=>hJ.e d (oh bs rest d hd),g1,g2,?_,hJ.k,hJ.kr,hJ.gr,hJ.u,hJ.b,oh bs rest⟩⟩;have :=tu bs rest az;omega
structure LsS(cs:List Cm)(own:Int→Prop)(dev:Int)(KB kb bR bl n:Nat)(mk:List (Sc×Value))(ul:Value)(lst:List Sc)(um:Value)(more:List Sc)(ur:Value)(rest:List DvP)(w W:World):Prop where
 k:KnM W kb mk
 gk:∀p∈mk,ScG cs own dev p.1
 kr:ag W KB TM 1 (fun _=>.map (some kb))
 r:ax 96 36 dvC W bR ur rest
 e:elD cs own dev rest W
 u:ax 37 35 scC W bl ul lst
 m:ax 37 35 scC W bl um more
 b:Below n w W
 sz:bl≤W.heap.size
 nb:n≤bl
 nw:n≤w.heap.size
section
variable {cs:List Cm}{own:Int→Prop}{dev:Int}{KB kb bR bl n:Nat}{mk:List (Sc×Value)}{ul um ur:Value}{lst more:List Sc}{rest:List DvP}{w W W':World}
theorem LsS.mk'{ae:Value}{lst':List Sc}(h:LsS cs own dev KB kb bR bl n mk ul lst um more ur rest w W)(hu:ax 37 35 scC W bl ae lst'):LsS cs own dev KB kb bR bl n mk ae lst' um more ur rest w W:=⟨h.k,h.gk,h.kr,h.r,h.e,hu,h.m,h.b,h.sz,h.nb,h.nw⟩
theorem LsS.below(h:LsS cs own dev KB kb bR bl n mk ul lst um more ur rest w W)(b:Below W.heap.size W W'):LsS cs own dev KB kb bR bl n mk ul lst um more ur rest w W':=
 ⟨h.k.below b,h.gk,h.kr.below b,h.r.below b,fun d hd=>(h.e d hd).below b,h.u.below b,h.m.below b,h.b.trans (b.mono (Yc h.nw h.b.size)),Yc h.sz b.size,h.nb,h.nw⟩
theorem LsS.app{v':Value}{l':List Sc}(h:LsS cs own dev KB kb bR bl n mk ul lst um more ur rest w W)(o:ax 37 35 scC W' bl v' l')(st:ay W ul W' v')(ne:um.ownBlock=none∨um.ownBlock≠ul.ownBlock)(ae:∀d∈rest,∀q,d.2.v.ownBlock=some q→q < bl):
 LsS cs own dev KB kb bR bl n mk v' l' um more ur rest w W':=by
 refine⟨⟨h.k.at'.of_block (st.block h.k.at'.lt (fun e=>iJ h.k h.u _ e rfl)),h.k.tr⟩,h.gk,st.row h.kr (aP (by decide) h.u h.kr),h.r.beside h.u (by decide) st,fun d hd=>⟨(h.e d hd).fr.appL (ae d hd) (fun q hq=>(h.u.lt q hq).1) st,(h.e d hd).frw,(h.e d hd).tw,(h.e d hd).good,(h.e d hd).len⟩,o,h.m.app st ne,h.b.trans (aO st (Yc h.nw h.b.size) (fun q hq=>Yc h.nb (h.u.lt q hq).1)),Yc h.sz st.1.size,h.nb,h.nw⟩
theorem LsS.upd{s:Sc}(h:LsS cs own dev KB kb bR bl n mk ul lst um more ur rest w W)(k:KM.At scA ScW W' kb (KM.put mk s (.bool true)))(g:ScG cs own dev s)(o:aG kb W W')(hn:n≤kb):LsS cs own dev KB kb bR bl n (KM.put mk s (.bool true)) ul lst um more ur rest w W':=
 ⟨⟨k,Vg h.k.tr s⟩,Kw h.gk g,o.row (Ne.symm (jS h.k h.kr)) h.kr,h.r.only o (iJ h.k h.r),fun d hd=>⟨(h.e d hd).fr.only o (iJ h.k (h.e d hd).fr),(h.e d hd).frw,(h.e d hd).tw,(h.e d hd).good,(h.e d hd).len⟩,
   h.u.only o (iJ h.k h.u),h.m.only o (iJ h.k h.m),aG.GI h.b h.nw o hn,Yc h.sz o.size,h.nb,h.nw⟩
end
structure LsO(w w':World)(cs:List Cm)(own:Int→Prop)(dev:Int)(l0:List Sc)(m:Nat)(e:Ending):Prop where
 ex:∃(a:Option Addr) (k:Nat) (lst:List Sc),e=.returned (.slice a lst.length k)∧aN 35 w' (.slice a lst.length k) lst.length (fun i=>scC (lst.getD i sc0))∧(∀s∈lst,ScG cs own dev s)∧lst.length≤m∧(l0≠[]→lst≠[])∧Below w.heap.size w w'
theorem vO{own:Int→Prop}{dev:Int}(fs:List Fo)(os:List Ow)(cs:List Cm)(f o v:Hd)(vs:Nat→CmV)(l0:List Sc)(la:Option Addr)(lk:Nat)(w:World)(hA:Apart cs aV own dev)(hr:uj w f o v fs os cs vs)(hw:RcW fs os cs)
 (hs:aN 35 w (.slice la l0.length lk) l0.length (fun i=>scC (l0.getD i sc0))) (hl:l0.length≤1000) (hg:∀s∈l0,ScG cs own dev s):
 Calls Tryz.prog 10 #[.agg (ah 8 (reC f o v)),.slice la l0.length lk] w fun e w'=>LsO w w' cs own dev l0 (l0.length+75*(fs.length*cs.length)) e:=by
 obtain⟨mm,aS⟩:=zg (fs.length*cs.length);have MM:Hid (mm≤21):=zh (by rw[←aS];exact Nat.mul_le_mul hw.fl hw.cw.len);have AL:=zh (fun W (b:Below w.heap.size w W)=>VT fs os cs f o v vs W hA (hr.below b) hw);have SR:=zh (fun W (b:Below w.heap.size w W)=>oU l0 la lk W (hs.below b) (by omega) (fun x hx=>(hg x hx).1));have HS:=zh hs;have HG:=zh hg;have HL:=zh hl;rw[aS]at AL ⊢;obtain⟨rc,fB⟩:=zg (reC f o v);rw[fB]at AL ⊢;obtain⟨n0,bJ⟩:=zg l0.length;have fC:=zh bJ;rw[bJ]at SR HS HL ⊢;clear hA hr hw hs hl hg aS fB bJ;have ig:=zM Tryz.prog;have aS:=fun W=>run_makeMap_plain (w:=W) (P:=Tryz.prog) TM;go_in;have B0:=zh (Yb w.heap.size w);go_upto_region 1 with fail;obtain⟨w1,fD,b1,z1,Z1⟩:=zW w 31 8 rc;rw[fD];(try rw[z1]);have B1:=zD B0 b1;clear b1 fD z1 B0;have bH:=B1;clear B1;have B1:Hid (Below w1.heap.size w1 w1):=zh (Yb _ _);go_upto_region 2 with fail;clear aS;obtain⟨w2,bM⟩:=zg (w1.alloc (.map #[] 0))
 have b2:Below w1.heap.size w1 w2:=(by rw[←bM];exact(Yb _ _).alloc (Ya _) _);have K2:Hid (KM.At scA ScW w2 w1.heap.size []):=zh (by rw[←bM];exact KM.At.made scA ScW w1);have z2:w1.heap.size+1=w2.heap.size:=(by rw[←bM];exact(Array.size_push _).symm);rw[bM];(try rw[z2]);have B2:=zD B1 b2;have Z2:=zh (Z1.below b2);clear b2 bM z2 B1 Z1;obtain⟨w3,fE,b3,z3,R3⟩:=zQ w2 (.cells #[.map (some w1.heap.size)] TM) TM 1 (fun _=>.map (some w1.heap.size)) rfl;rw[fE];(try rw[z3]);have B3:=zD B2 b3;have Z3:=zh (Z2.below b3);have K3:=zh (K2.below b3);clear b3 fE z3 B2 Z2 K2;go_wp2_with(with_reducible refine zS 12 ?_);refine zh (zL Z3 rfl Zf ?_);go_wp2_with fail;refine(AL.o w3 (bH.trans (B3.mono bH.size))).mono ?_;rintro e w4 ⟨⟨ur,rest,rfl,ho,he,hlen,b4⟩⟩;have fF:=zh B3.size;have U4:=zh ho;have E4:=zh he;have LR:=zh hlen;have dO:=zD B3 b4
 have bP:Hid (∀d∈rest,∀q,d.2.v.ownBlock=some q→q < w4.heap.size):=zh (fun d hd q hq=>((he d hd).fr.lt q hq).2);clear ho he hlen AL;clear Z3;have B4:=zD B3 b4;have K4:=zh (K3.below b4);have R4:=zh (R3.below b4);clear b4 B3 K3 R3;go_wp2_with fail;refine(SR.o w4 (bH.trans (B4.mono bH.size))).mono ?_;rintro e w5 ⟨um,more,rfl,hm,hmem,fG,b5⟩;have M5:=zh hm;have dP:Hid (∀x,x∈more↔x∈l0):=zh hmem;have ML:=zh fG;have fH:=zD dO b5;have fJ:=zh b5.size;clear hm hmem fG SR;have K5:=zh (K4.below b5);have R5:=zh (R4.below b5);have U5:=zh (U4.below b5);have E5:=zh (E4.below b5);clear b5 B4 K4 R4 U4 E4;obtain⟨kb,dI⟩:=zg w1.heap.size;obtain⟨KB,dQ⟩:=zg w2.heap.size;have gV:=zh dI
 have S5:Hid (LsS cs own dev KB kb w3.heap.size w4.heap.size w1.heap.size [] (.slice none 0 0) [] um more ur rest w1 w5):=zh (by
  rw[←dI,←dQ]
  exact⟨⟨K5.o,fun p hp=>by cases hp⟩,(fun p hp=>by cases hp),R5.o,U5.o,fun d hd=>E5.o d hd,ax.nil _ _,M5.o,fH.o,fJ.o,dO.size,Ya _⟩)
 have fK:Hid (um.ownBlock=none∨um.ownBlock≠(Value.slice none 0 0).ownBlock):=zh (by cases h:um.ownBlock with | none=>exact .inl rfl | some k=>exact .inr (fun e=>by cases e));have fM:Hid (∀s∈more,ScG cs own dev s):=zh (fun s hs=>HG.o s ((dP.o s).1 hs));have fO:Hid (([]:List Sc).length+more.length+rest.length≤n0+75*mm):=zh (by have h1:=ML.o;have h2:=LR.o;have h3:=fC.o;simp only[Xc];omega)
 have dR:Hid (more=[]→l0=[]):=zh (fun h=>by
  cases hl:l0 with
  | nil=>rfl
  | cons a r=>have h2:=(dP.o a).2 (by rw[hl];simp);rw[h]at h2;cases h2)
 have fP:Hid (l0≠[]→([]:List Sc)≠[]∨more≠[]):=zh (fun h=>.inr (fun e=>h (dR.o e)));have fQ:=bP;rw[dI]at K5 R5 ⊢;rw[dQ]at R5 ⊢;clear dI dQ K5 R5 U5 E5 M5 dO fH fJ ML LR dP bP;go_wp2_with fail
 go_loopg [1,6,7] (rest.length+if more=[]then 0 else 1) (fun gm s1 s6 s7 wx=>∃(mk:List (Sc×Value)) (ul u:Value) (lst:List Sc) (um:Value) (more:List Sc) (ur:Value) (rest:List DvP),gm=(rest.length+if more=[]then 0 else 1)∧s1=ul∧s6=ur∧s7=um∧
  Hid (LsS cs own dev KB kb w3.heap.size w4.heap.size w1.heap.size mk u lst um more ur rest w1 wx)∧Hid ((mk=[]∧ul=.slice la n0 lk∧lst=[]∧(more=[]→l0=[]))∨(mk≠[]∧u=ul))∧Hid (∀s∈lst,ScG cs own dev s)∧Hid (∀s∈more,ScG cs own dev s)∧
  Hid (lst.length+more.length+rest.length≤n0+75*mm)∧Hid (um.ownBlock=none∨um.ownBlock≠u.ownBlock)∧Hid (∀d∈rest,∀q,d.2.v.ownBlock=some q→q < w4.heap.size)∧Hid (l0≠[]→lst≠[]∨more≠[]))
 case atStart=>exact⟨[],_,_,[],_,more,_,rest,rfl,rfl,rfl,rfl,S5,zh (.inl ⟨rfl,rfl,rfl,dR.o⟩),zh (fun s hs=>by cases hs),fM,fO,fK,fQ,fP⟩
 case round=>
  clear S5 dR fM fO fK fQ fP;obtain⟨mk,ul,u,lst,um,more,ur,rest,fU,rfl,rfl,rfl,hS,fV,fZ,gp,gq,gu,gy,gz⟩:=hrel;obtain⟨w6,rfl⟩:=zG wr;have gB:=zh fU;have S:=hS;have bQ:=fV;have GL:=fZ;have GM:=gp;have dJ:=gq;have NE:=gu;have dK:=gy;have NZ:=gz;clear fU hS fV fZ gp gq gu gy gz;have LT:Hid (lst.length+more.length+rest.length≤3000):=zh (by have h1:=dJ.o;have h2:=HL.o;have h3:=MM.o;omega);obtain⟨ma,mc,rfl⟩:=S.m.slice;obtain⟨ra,dL,rfl⟩:=S.r.slice;obtain⟨nm,dM⟩:=zg more.length;obtain⟨nr,dS⟩:=zg rest.length;have aA:=zh dM;rw[dM]at S NE;rw[dS]at S;rw[dM,dS];clear dM dS;by_cases aX:more=[]
  · have hz:nm=0:=(by rw[←aA.o,aX];rfl);subst hz;have BZ:=zh (bH.trans (S.b.mono bH.size));have gW:=zh aX;rcases bQ.o with⟨h1,h2,h3,h4⟩ | ⟨h1,h2⟩
    · have dN:=h4 aX;have bJ:n0=0:=(by rw[←fC.o,dN];rfl);subst bJ;subst h2;have SZ:Hid (aN 35 w6 (.slice la 0 lk) 0 (fun i=>scC (([]:List Sc).getD i sc0))):=zh (by have h:=HS.below BZ.o;rw[dN]at h;exact h);have gX:=zh dN;clear h1 h3 h4 aX dN;go_wp2_with fail;go_ret;exact⟨⟨la,lk,[],rfl,SZ.o,(fun s hs=>by cases hs),Nat.zero_le _,fun h=>absurd gX.o h,BZ.o⟩⟩
    · subst h2;obtain⟨ua,uc,rfl⟩:=S.u.slice;have SZ:=zh (ax.at1 sc0 (by decide) (by decide) S.u (by have h1:=LT.o;omega));have bT:Hid (l0≠[]→lst≠[]):=zh (fun h=>by rcases NZ.o h with h | h;exact h;exact absurd gW.o h);have LB:Hid (lst.length≤n0+75*mm):=zh (by have h1:=dJ.o;omega);obtain⟨nl,aY⟩:=zg lst.length;have dU:=zh aY;rw[aY]at SZ ⊢;clear h1 aX aY;go_wp2_with fail;go_ret;exact⟨⟨ua,uc,lst,by rw[dU.o];rfl,by rw[dU.o];exact SZ.o,GL.o,LB.o,bT.o,BZ.o⟩⟩
  · have ay:Hid (0 < nm):=zh (by rw[←aA.o];exact List.length_pos_iff.2 aX);have gG:=zh aX;have d0:decide ((0:Int) < (nm:Int))=true:=(by rw[decide_eq_true_iff];have :=ay.o;omega);have d1:decide ((nm:Int) > 0)=true:=d0;have d2:decide (0 < nm)=true:=(by rw[decide_eq_true_iff];exact ay.o);have k0:w6.cell? ⟨KB,0,none⟩=some (.map (some kb)):=S.kr.cell (i:=0) (by decide);have gI:=zh (Nat.le_of_eq gV.o);obtain⟨es,clock,gJ,gK⟩:=S.k.at'.len;obtain⟨q,hq⟩:=zg mk.length;have gQ:(Builtin.len_ #[TM] 3 #[.map (some kb)]).run Tryz.prog w6=.ok (.int .i64 (q:Int)) w6:=(by rw[run_len_map (es:=es) (clock:=clock) (h:=by kernel_rfl) (hb:=gJ),gK,hq];rfl);have HQ:=zh hq;clear aX gJ gK hq;by_cases bI:mk=[]
    · have e0:((q:Int)==0)=true:=(by have h:=HQ.o;rw[bI]at h;rw[←h];rfl);have LE:Hid (lst=[]):=zh (by rcases bQ.o with h | h;exact h.2.2.1;exact absurd bI h.1);have gY:=LE.o;subst gY;have U6:Hid (ax 37 35 scC w6 w4.heap.size (.slice none 0 0) []):=zh (ax.nil _ _);have gU:Hid ((Value.slice ma nm mc).ownBlock=none∨(Value.slice ma nm mc).ownBlock≠(Value.slice none 0 0).ownBlock):=zh (by cases h:(Value.slice ma nm mc).ownBlock with | none=>exact .inl rfl | some k=>exact .inr (fun e=>by cases e));clear NE LE bI;have NE:=gU;clear gU;go_upto_region 7 with fail;have S6:=zh (LsS.mk' S.o U6.o);go_wp2_with(with_reducible refine zS 24 ?_);refine zh ?_
      refine bK rfl (.tmp 22) (.tmp 23) nV Tryz.underlying32 rfl (by decide) (by decide) (fun u j=>eG u j) sc0 rfl w4.heap.size _ ([]:List Sc) rfl S6.u _ more rfl (by have h:=ax.at1 sc0 (by decide) (by decide) S6.m (by have h1:=LT.o;omega);rw[aA.o]at h ⊢;exact h) (by have h1:=LT.o;omega) S6.sz ?_;intro v7 w7 O7 s7;have S7:=zh (S6.app O7.o s7.o NE.o dK.o);obtain⟨va,vc,rfl⟩:=O7.slice;obtain⟨aj,au⟩:=zg (([]:List Sc)++more);have bU:=zh au;rw[au]at S7 O7 ⊢;obtain⟨az,aB⟩:=zg aj.length;rw[aB]at S7 ⊢;clear O7 s7 S6 au aB S d0 d1 d2 e0 k0 gQ HQ;go_upto_region 8 with fail;go_wp2_with fail;go_loopg [27] nm (fun g dV wx=>∃(i:Nat) (mk:List (Sc×Value)),i+g=nm∧dV=.int .i64 (i:Int)∧Hid (0 < i→mk≠[])∧Hid (LsS cs own dev KB kb w3.heap.size w4.heap.size w1.heap.size mk (.slice va az vc) aj (.slice ma nm mc) more (.slice ra nr dL) rest w1 wx))
      case atStart=>exact⟨0,mk,by omega,rfl,zh (fun h=>absurd h (Nat.lt_irrefl 0)),S7⟩
      case round=>
       clear S7 bQ NE;obtain⟨i,mk,hi,rfl,hz,hS⟩:=hrel;obtain⟨w8,rfl⟩:=zG wr;have HI:=zh hi;have MZ:=hz;have S8:=hS;clear hz hS;have q0:=Ye i;by_cases ak:i < nm
       · obtain⟨d0,d1,q2,-⟩:=zl ak;have bV:=zh ak;have gZ:=zw  ((i:Int)+1) (by have h1:=LT.o;have h2:=aA.o;omega)
         have SM:aN 35 w8 (.slice ma nm mc) nm (fun i=>scC (more.getD i sc0)):=by
          have h:=ax.at1 sc0 (by decide) (by decide) S8.m (by have h1:=LT.o;omega);rwa[aA.o]at h
         obtain⟨bb,bo,rfl,aZ,dW,bW⟩:=SM.aI ak;have CB:=zh (fun q hq=>bW i ak q hq);have GS:=zh (GM.o _ (aK (d:=sc0) (show i < more.length by rw[aA.o];exact ak)));obtain⟨s,hs⟩:=zg (more.getD i sc0);rw[hs]at CB GS;clear ak SM aZ dW bW hs hi;go_upto_region 10 with fail;have B8:Hid (Below w8.heap.size w8 w8):=zh (Yb _ _);go_wp2_with(with_reducible refine zS 30 ?_);refine zh (zE bb (bo+i*35) rfl YT bo i (by rw[Ym]) (scC s) CB.o ?_);clear CB d0 d1 q0 q2;have Zr:=zh (ag.new w8 37 35 (scC sc0));go_upto_region 11 with((with_reducible refine zN ?_);refine zV Zr rfl (scC s) rfl YT (fun j _=>eG _ j) ?_;intro w9 X9 o9);have b9:Below w8.heap.size w8 w9:=zO o9;have S9:=zh (S8.below b9);clear b9 o9 Zr B8 S8;have k0:w9.cell? ⟨KB,0,none⟩=some (.map (some kb)):=S9.kr.cell (i:=0) (by decide);go_wp2_with(with_reducible refine zS 32 ?_);refine zh (zL X9 rfl YT ?_);go_wp2_with(with_reducible refine zn ?_)
         refine zh (KM.di kyS rfl TM 4 (.tmp 31) (.tmp 32) (.const (.bool true)) rfl s GS.1 (.bool true) rfl rfl rfl S9.k.at' Tryz.underlying91 ?_);intro bf bY bZ;have af:=zh (S9.upd bY.o GS.o bZ.o gI.o);have MN:Hid (0 < i+1→KM.put mk s (.bool true)≠[]):=zh (fun _ h=>by cases h);clear bY bZ k0 S9 X9;go_wp2_with fail;go_roundg(nm - (i+1));case measure=>have h1:=bV.o;have h2:=HI.o;omega
         case rel=>
          go_light;exact⟨i+1,_,by have h1:=bV.o;omega,by go_num,MN,af⟩
       · obtain⟨d0,d1⟩:=zk ak;have MX:Hid (mk≠[]):=zh (MZ.o (by have h1:=HI.o;have h2:=ay.o;omega));clear ak hi q0 HI MZ;have aS:=fun W=>run_makeMap_plain (w:=W) (P:=Tryz.prog) TM;go_upto_region 14 with fail;clear d0 d1 aS;have B8:Hid (Below w8.heap.size w8 w8):=zh (Yb _ _);have bg:=zh S8.k.at'.lt;have dX:=zh S8.b.size;obtain⟨w9,aC⟩:=zg (w8.alloc (.map #[] 0));have b9:Below w8.heap.size w8 w9:=(by rw[←aC];exact(Yb _ _).alloc (Ya _) _);have G9:Hid (KnM w9 w8.heap.size []):=zh (by rw[←aC];exact⟨KM.At.made scA ScW w8,fun p hp=>by cases hp⟩);have z9:w8.heap.size+1=w9.heap.size:=(by rw[←aC];exact(Array.size_push _).symm);rw[aC];(try rw[z9]);have S9:=zh (S8.below b9);clear b9 aC z9 B8 S8;obtain⟨bf,aF,bn,cu,cO⟩:=zQ w9 (.cells #[.map (some w8.heap.size)] TM) TM 1 (fun _=>.map (some w8.heap.size)) rfl;rw[aF];(try rw[cu]);have af:=zh (S9.below bn);have cZ:=zh (G9.below bn);clear bn aF cu S9 G9
         have LD:=zh (yB KB kb w9.heap.size w8.heap.size w3.heap.size w4.heap.size w1.heap.size mk (.slice va az vc) (.slice ra nr dL) aj rest bf af.kr af.k af.gk cO.o cZ.o af.r (by have h1:=LT.o;omega) (fun d hd=>af.e d hd) af.u (by have h1:=bg.o;omega) (Yc af.nw af.b.size) (by have h1:=dX.o;omega) fF.o);go_wp2_with fail;refine LD.mono ?_;rintro e ai ⟨⟨u2,ae,mg,rfl,df,dh,dm,dn,aG,dw,dA,dB,dC,aT,aH⟩⟩;have dD:=zh dB;have dE:=zh dm;have GG:=zh dn;have bu:=zh aG;have aU:Hid (LsS cs own dev KB kb w3.heap.size w4.heap.size w1.heap.size mk (.slice va az vc) aj (.slice none 0 0) [] u2 ae bf ai):=zh ⟨dw,af.gk,dA,df,dh,dC,ax.nil _ _,aT,Yc af.sz (by have h:=aT.size;exact h),af.nb,Yc af.nw af.b.size⟩;have bz:=zh (af.b.trans aT);have dY:Hid (∀d∈ae,∀q,d.2.v.ownBlock=some q→q < w4.heap.size):=zh (fun d hd=>dK.o d (aH d hd));clear LD df dh dm dn aG dw dA dB dC aT aH af cZ cO
         have g0:ai.cell? ⟨w9.heap.size,0,none⟩=some (.map (some w8.heap.size)):=dD.cell (i:=0) (by decide);obtain⟨dZ,ed,rfl⟩:=aU.r.slice;obtain⟨eu,aJ⟩:=zg ae.length;rw[aJ]at aU ⊢;clear aJ;go_wp2_with fail;refine(yV (some w8.heap.size) ai).mono ?_;rintro e bC ⟨rfl,rfl⟩;have aO:Below ai.heap.size ai (ai.alloc (.cells #[.map (some w8.heap.size)] TM)):=(Yb _ _).alloc (Ya _) _;have bD:Hid (ag (ai.alloc (.cells #[.map (some w8.heap.size)] TM)) ai.heap.size TM 1 (fun _=>.map (some w8.heap.size))):=zh (ag.new ai TM 1 (fun _=>.map (some w8.heap.size)));obtain⟨bC,aP⟩:=zg (ai.alloc (.cells #[.map (some w8.heap.size)] TM));rw[aP]at aO bD ⊢;have aW:=zh (aU.below aO);have dF:=zh (dE.below aO);have bF:=zh (bz.trans (aO.mono (Yc (Ya _) bz.size)));have SF:=zh (yG ai.heap.size w8.heap.size mg bC bD.o dF.at' (by have h1:=bu.o;have h2:=LT.o;omega));clear aP aO bD dE dF aU bz dD g0;go_wp2_with fail
         refine SF.mono ?_;rintro e eF ⟨aQ,more2,rfl,hp,ho,bG⟩;have LU:Hid (∀q,(Value.slice va az vc).ownBlock=some q→q < bC.heap.size):=zh (fun q hq=>(aW.u.lt q hq).2)
         have eH:Hid (aQ.ownBlock=none∨aQ.ownBlock≠(Value.slice va az vc).ownBlock):=zh (by
          cases h:aQ.ownBlock with
          | none=>exact .inl rfl
          | some q=>exact .inr (fun e=>by have h1:=(ho.lt q h).1;have h2:=LU.o q e.symm;omega))
         have SB:=aW.below bG;have eP:Hid (LsS cs own dev KB kb w3.heap.size w4.heap.size w1.heap.size mk (.slice va az vc) aj aQ more2 (.slice dZ eu ed) ae w1 eF):=zh ⟨SB.k,SB.gk,SB.kr,SB.r,SB.e,SB.u,ho.mono aW.sz,bF.trans (bG.mono (Yc (Ya _) bF.size)),SB.sz,SB.nb,Ya _⟩
         have eQ:Hid (∀s∈more2,ScG cs own dev s):=zh (fun s hs=>by
          obtain⟨p,eU,rfl⟩:=Yo.1 (hp.mem_iff.1 hs)
          exact GG.o p eU)
         have eX:Hid (∀s∈aj,ScG cs own dev s):=zh (fun s hs=>by
          rw[←bU.o]at hs;rcases Yt.1 hs with h | h
          · exact GL.o s h
          · exact GM.o s h)
         have dG:Hid (more2.length=mg.length):=zh (by rw[hp.length_eq,Yk]);have dH:Hid (aj.length=(([]:List Sc)).length+more.length):=zh (by rw[←bU.o,Yf]);have eY:Hid (aj.length+more2.length+ae.length≤n0+75*mm):=zh (by have h1:=dJ.o;have h2:=dH.o;have h3:=dG.o;have h4:=bu.o;omega);have bT:Hid (l0≠[]→aj≠[]∨more2≠[]):=zh (fun _=>.inl (fun e=>by have h1:=dH.o;have h2:=ay.o;have h3:=aA.o;rw[e,Xc]at h1;omega))
         have fA:Hid (ae.length+(if more2=[]then 0 else 1) < rest.length+1):=zh (by
          have h1:=bu.o;have h2:=dG.o;split
          · omega
          · next h=>have h3:=List.length_pos_iff.2 h;omega)
         clear SF hp ho bG SB aW bF LU;go_wp2_with fail;go_roundg(ae.length+if more2=[]then 0 else 1);case measure=>have h1:=gB.o;have h2:=fA.o;rw[if_neg gG.o]at h1;omega
         case rel=>
          go_light;exact⟨mk,_,_,aj,aQ,more2,_,ae,rfl,rfl,rfl,rfl,eP,zh (.inr ⟨MX.o,rfl⟩),eX,eQ,eY,eH,dY,bT⟩
    · have e0:((q:Int)==0)=false:=by
       have h:=HQ.o;have h2:0 < mk.length:=List.length_pos_iff.2 bI;rw[beq_eq_false_iff_ne];omega
      rcases id bQ.o with h | ⟨_,hu⟩
      · exact absurd h.1 bI
      subst hu;obtain⟨ua,uc,rfl⟩:=S.u.slice;obtain⟨nl,aY⟩:=zg lst.length;have dU:=zh aY;rw[aY]at S NE ⊢;have U6:=zh S.u;clear bI aY;go_upto_region 7 with fail;have S6:=zh (LsS.mk' S.o U6.o);go_wp2_with(with_reducible refine zS 24 ?_);refine zh ?_;refine bK rfl (.tmp 22) (.tmp 23) nV Tryz.underlying32 rfl (by decide) (by decide) (fun u j=>eG u j) sc0 rfl w4.heap.size _ lst rfl S6.u _ more rfl (by have h:=ax.at1 sc0 (by decide) (by decide) S6.m (by have h1:=LT.o;omega);rw[aA.o]at h ⊢;exact h) (by have h1:=LT.o;omega) S6.sz ?_;intro v7 w7 O7 s7;have S7:=zh (S6.app O7.o s7.o NE.o dK.o);obtain⟨va,vc,rfl⟩:=O7.slice;obtain⟨aj,au⟩:=zg (lst++more);have bU:=zh au;rw[au]at S7 O7 ⊢;obtain⟨az,aB⟩:=zg aj.length;rw[aB]at S7 ⊢;clear O7 s7 S6 au aB S d0 d1 d2 e0 k0 gQ HQ;go_upto_region 8 with fail;go_wp2_with fail
      go_loopg [27] nm (fun g dV wx=>∃(i:Nat) (mk:List (Sc×Value)),i+g=nm∧dV=.int .i64 (i:Int)∧Hid (0 < i→mk≠[])∧Hid (LsS cs own dev KB kb w3.heap.size w4.heap.size w1.heap.size mk (.slice va az vc) aj (.slice ma nm mc) more (.slice ra nr dL) rest w1 wx));case atStart=>exact⟨0,mk,by omega,rfl,zh (fun h=>absurd h (Nat.lt_irrefl 0)),S7⟩
      case round=>
       clear S7 bQ NE;obtain⟨i,mk,hi,rfl,hz,hS⟩:=hrel;obtain⟨w8,rfl⟩:=zG wr;have HI:=zh hi;have MZ:=hz;have S8:=hS;clear hz hS;have q0:=Ye i;by_cases ak:i < nm
       · obtain⟨d0,d1,q2,-⟩:=zl ak;have bV:=zh ak;have gZ:=zw  ((i:Int)+1) (by have h1:=LT.o;have h2:=aA.o;omega)
         have SM:aN 35 w8 (.slice ma nm mc) nm (fun i=>scC (more.getD i sc0)):=by
          have h:=ax.at1 sc0 (by decide) (by decide) S8.m (by have h1:=LT.o;omega);rwa[aA.o]at h
         obtain⟨bb,bo,rfl,aZ,dW,bW⟩:=SM.aI ak;have CB:=zh (fun q hq=>bW i ak q hq);have GS:=zh (GM.o _ (aK (d:=sc0) (show i < more.length by rw[aA.o];exact ak)));obtain⟨s,hs⟩:=zg (more.getD i sc0);rw[hs]at CB GS;clear ak SM aZ dW bW hs hi;go_upto_region 10 with fail;have B8:Hid (Below w8.heap.size w8 w8):=zh (Yb _ _);go_wp2_with(with_reducible refine zS 30 ?_);refine zh (zE bb (bo+i*35) rfl YT bo i (by rw[Ym]) (scC s) CB.o ?_);clear CB d0 d1 q0 q2;have Zr:=zh (ag.new w8 37 35 (scC sc0));go_upto_region 11 with((with_reducible refine zN ?_);refine zV Zr rfl (scC s) rfl YT (fun j _=>eG _ j) ?_;intro w9 X9 o9);have b9:Below w8.heap.size w8 w9:=zO o9;have S9:=zh (S8.below b9);clear b9 o9 Zr B8 S8;have k0:w9.cell? ⟨KB,0,none⟩=some (.map (some kb)):=S9.kr.cell (i:=0) (by decide);go_wp2_with(with_reducible refine zS 32 ?_);refine zh (zL X9 rfl YT ?_);go_wp2_with(with_reducible refine zn ?_)
         refine zh (KM.di kyS rfl TM 4 (.tmp 31) (.tmp 32) (.const (.bool true)) rfl s GS.1 (.bool true) rfl rfl rfl S9.k.at' Tryz.underlying91 ?_);intro bf bY bZ;have af:=zh (S9.upd bY.o GS.o bZ.o gI.o);have MN:Hid (0 < i+1→KM.put mk s (.bool true)≠[]):=zh (fun _ h=>by cases h);clear bY bZ k0 S9 X9;go_wp2_with fail;go_roundg(nm - (i+1));case measure=>have h1:=bV.o;have h2:=HI.o;omega
         case rel=>
          go_light;exact⟨i+1,_,by have h1:=bV.o;omega,by go_num,MN,af⟩
       · obtain⟨d0,d1⟩:=zk ak;have MX:Hid (mk≠[]):=zh (MZ.o (by have h1:=HI.o;have h2:=ay.o;omega));clear ak hi q0 HI MZ;have aS:=fun W=>run_makeMap_plain (w:=W) (P:=Tryz.prog) TM;go_upto_region 14 with fail;clear d0 d1 aS;have B8:Hid (Below w8.heap.size w8 w8):=zh (Yb _ _);have bg:=zh S8.k.at'.lt;have dX:=zh S8.b.size;obtain⟨w9,aC⟩:=zg (w8.alloc (.map #[] 0));have b9:Below w8.heap.size w8 w9:=(by rw[←aC];exact(Yb _ _).alloc (Ya _) _);have G9:Hid (KnM w9 w8.heap.size []):=zh (by rw[←aC];exact⟨KM.At.made scA ScW w8,fun p hp=>by cases hp⟩);have z9:w8.heap.size+1=w9.heap.size:=(by rw[←aC];exact(Array.size_push _).symm);rw[aC];(try rw[z9]);have S9:=zh (S8.below b9);clear b9 aC z9 B8 S8;obtain⟨bf,aF,bn,cu,cO⟩:=zQ w9 (.cells #[.map (some w8.heap.size)] TM) TM 1 (fun _=>.map (some w8.heap.size)) rfl;rw[aF];(try rw[cu]);have af:=zh (S9.below bn);have cZ:=zh (G9.below bn);clear bn aF cu S9 G9
         have LD:=zh (yB KB kb w9.heap.size w8.heap.size w3.heap.size w4.heap.size w1.heap.size mk (.slice va az vc) (.slice ra nr dL) aj rest bf af.kr af.k af.gk cO.o cZ.o af.r (by have h1:=LT.o;omega) (fun d hd=>af.e d hd) af.u (by have h1:=bg.o;omega) (Yc af.nw af.b.size) (by have h1:=dX.o;omega) fF.o);go_wp2_with fail;refine LD.mono ?_;rintro e ai ⟨⟨u2,ae,mg,rfl,df,dh,dm,dn,aG,dw,dA,dB,dC,aT,aH⟩⟩;have dD:=zh dB;have dE:=zh dm;have GG:=zh dn;have bu:=zh aG;have aU:Hid (LsS cs own dev KB kb w3.heap.size w4.heap.size w1.heap.size mk (.slice va az vc) aj (.slice none 0 0) [] u2 ae bf ai):=zh ⟨dw,af.gk,dA,df,dh,dC,ax.nil _ _,aT,Yc af.sz (by have h:=aT.size;exact h),af.nb,Yc af.nw af.b.size⟩;have bz:=zh (af.b.trans aT);have dY:Hid (∀d∈ae,∀q,d.2.v.ownBlock=some q→q < w4.heap.size):=zh (fun d hd=>dK.o d (aH d hd));clear LD df dh dm dn aG dw dA dB dC aT aH af cZ cO
         have g0:ai.cell? ⟨w9.heap.size,0,none⟩=some (.map (some w8.heap.size)):=dD.cell (i:=0) (by decide);obtain⟨dZ,ed,rfl⟩:=aU.r.slice;obtain⟨eu,aJ⟩:=zg ae.length;rw[aJ]at aU ⊢;clear aJ;go_wp2_with fail;refine(yV (some w8.heap.size) ai).mono ?_;rintro e bC ⟨rfl,rfl⟩;have aO:Below ai.heap.size ai (ai.alloc (.cells #[.map (some w8.heap.size)] TM)):=(Yb _ _).alloc (Ya _) _;have bD:Hid (ag (ai.alloc (.cells #[.map (some w8.heap.size)] TM)) ai.heap.size TM 1 (fun _=>.map (some w8.heap.size))):=zh (ag.new ai TM 1 (fun _=>.map (some w8.heap.size)));obtain⟨bC,aP⟩:=zg (ai.alloc (.cells #[.map (some w8.heap.size)] TM));rw[aP]at aO bD ⊢;have aW:=zh (aU.below aO);have dF:=zh (dE.below aO);have bF:=zh (bz.trans (aO.mono (Yc (Ya _) bz.size)));have SF:=zh (yG ai.heap.size w8.heap.size mg bC bD.o dF.at' (by have h1:=bu.o;have h2:=LT.o;omega));clear aP aO bD dE dF aU bz dD g0;go_wp2_with fail
         refine SF.mono ?_;rintro e eF ⟨aQ,more2,rfl,hp,ho,bG⟩;have LU:Hid (∀q,(Value.slice va az vc).ownBlock=some q→q < bC.heap.size):=zh (fun q hq=>(aW.u.lt q hq).2)
         have eH:Hid (aQ.ownBlock=none∨aQ.ownBlock≠(Value.slice va az vc).ownBlock):=zh (by
          cases h:aQ.ownBlock with
          | none=>exact .inl rfl
          | some q=>exact .inr (fun e=>by have h1:=(ho.lt q h).1;have h2:=LU.o q e.symm;omega))
         have SB:=aW.below bG;have eP:Hid (LsS cs own dev KB kb w3.heap.size w4.heap.size w1.heap.size mk (.slice va az vc) aj aQ more2 (.slice dZ eu ed) ae w1 eF):=zh ⟨SB.k,SB.gk,SB.kr,SB.r,SB.e,SB.u,ho.mono aW.sz,bF.trans (bG.mono (Yc (Ya _) bF.size)),SB.sz,SB.nb,Ya _⟩
         have eQ:Hid (∀s∈more2,ScG cs own dev s):=zh (fun s hs=>by
          obtain⟨p,eU,rfl⟩:=Yo.1 (hp.mem_iff.1 hs)
          exact GG.o p eU)
         have eX:Hid (∀s∈aj,ScG cs own dev s):=zh (fun s hs=>by
          rw[←bU.o]at hs;rcases Yt.1 hs with h | h
          · exact GL.o s h
          · exact GM.o s h)
         have dG:Hid (more2.length=mg.length):=zh (by rw[hp.length_eq,Yk]);have dH:Hid (aj.length=(lst).length+more.length):=zh (by rw[←bU.o,Yf]);have eY:Hid (aj.length+more2.length+ae.length≤n0+75*mm):=zh (by have h1:=dJ.o;have h2:=dH.o;have h3:=dG.o;have h4:=bu.o;omega);have bT:Hid (l0≠[]→aj≠[]∨more2≠[]):=zh (fun _=>.inl (fun e=>by have h1:=dH.o;have h2:=ay.o;have h3:=aA.o;rw[e,Xc]at h1;omega))
         have fA:Hid (ae.length+(if more2=[]then 0 else 1) < rest.length+1):=zh (by
          have h1:=bu.o;have h2:=dG.o;split
          · omega
          · next h=>have h3:=List.length_pos_iff.2 h;omega)
         clear SF hp ho bG SB aW bF LU;go_wp2_with fail;go_roundg(ae.length+if more2=[]then 0 else 1);case measure=>have h1:=gB.o;have h2:=fA.o;rw[if_neg gG.o]at h1;omega
         case rel=>
          go_light;exact⟨mk,_,_,aj,aQ,more2,_,ae,rfl,rfl,rfl,rfl,eP,zh (.inr ⟨MX.o,rfl⟩),eX,eQ,eY,eH,dY,bT⟩
theorem Oh(l:List Sc)(d:Sc)(la:Option Addr)(lc:Nat)(w:World)(hv:aN 35 w (.slice la l.length lc) l.length (fun i=>scC (l.getD i sc0)))(hn:l.length≤1000000)(hl:∀x∈l,ScW x)(hd:ScW d):
 Calls Tryz.prog 39 #[.slice la l.length lc,scA d] w fun e w'=>(e=.returned (.int .i64 (-1))∨∃k:Nat,k < l.length∧l.getD k sc0=d∧e=.returned (.int .i64 (k:Int)))∧Below w.heap.size w w':=by
 have S0:=zh hv;have HD:=zh hd;have HL:Hid (∀i,i < l.length→ScW (l.getD i sc0)):=zh (fun i hi=>hl _ (aK hi));obtain⟨n,ai⟩:=zg l.length;rw[ai]at S0 HL hn;have QN:=zh hn;rw[ai];clear hv hn hl hd ai;go_in;have B0:=zh (Yb w.heap.size w);go_upto_region 1 with fail;obtain⟨w1,ax,b1,z1,D1⟩:=zW w 37 35 (scC d);rw[ax];(try rw[z1]);have B1:=zD B0 b1;have S1:=zh (S0.below b1);clear b1 ax z1 B0 S0;go_wp2_with fail;go_loopg [8] n (fun gg s8 wx=>∃k:Nat,k+gg=n∧s8=.int .i64 (k:Int)∧Hid (Below w1.heap.size w1 wx));case atStart=>exact⟨0,by omega,rfl,zh (Yb _ _)⟩
 case round=>
  obtain⟨k,hk,rfl,hB⟩:=hrel;obtain⟨w3,rfl⟩:=zG wr;have D3:=zh (D1.below hB.o);have S3:=zh (S1.below hB.o);have B3:=zD B1 hB.o;have HK:=zh hk;have q0:=Ye k;by_cases af:k < n
  · obtain⟨d0,d1,q2,-⟩:=zl af;have ak:=zh af;have aJ:wrap64 ((k:Int)+1)=(k:Int)+1:=wrap64_in (by have :=QN.o;omega);have aO:=zw  ((k:Int)+1) (by have :=QN.o;omega);obtain⟨b,off,rfl,au,ay,hc⟩:=aN.aI (s:=35) (n:=n) (a:=la) (k:=lc) (c:=fun i=>scC (l.getD i sc0)) S3.o af;have aB:Hid (∀j,j < 35→w3.cell? ⟨b,off+k*35+j,none⟩=some (scC (l.getD k sc0) j)):=zh (fun j hj=>by rw[Ym];exact hc k af j hj);have HX:=zh (HL.o k af);have aC:=zh ay;have aG:=zh D3.lt;obtain⟨x,hx⟩:=zg (l.getD k sc0);have EX:=zh hx;rw[hx]at aB HX;clear af hk au ay hc hx;go_upto_region 4 with fail;refine Tc.aA (keep w3.heap.size) 6 [] (.fl 0 (.fl 1 (.fl 2 (.fl 3 (.fl 4 (.one 5 .done)))))) (by kernel_rfl) (by kernel_rfl) ?_;intro w4 b4 e4;have ah:Hid (Below w3.heap.size w3 w4):=zh b4;clear b4 e4;refine Tc.aj [0,1,2,3,4] [_,_,_,_,_] rfl ?_;dsimp only[zx,zy,zz];repeat(go_big_quiet_step(exact fun _=>rfl))
    refine zq w.heap.size 0 rfl 35 YT (scC d) (scC d) (fun W hW=>bG (n:=w3.heap.size) (D3.below ah.o) aG.o hW) (by decide) (fun j _=>by rw[Yl]) ?_;simp only[Act.put,zu];(repeat(go_big_quiet_step(exact fun _=>rfl)));refine ze b (off+k*35) rfl YT (scC x) (fun W hW i hi=>aQ (n:=w3.heap.size) ((ah.cell (p:=⟨b,off+k*35+i,none⟩) aC.o).trans (aB.o i hi)) aC.o hW) ?_;simp only[Act.put,zu];refine wpQuiet_nil ?_;refine Tc.ae 5 rfl (fun K hK=>?_);have EQ:=fun W=>TJ HD.o HX.o W;have GD:=fun W=>vH .eql (.tmp 11) (.tmp 15) d x W;have B4:=zD hB ah.o;have C4:=zD B3 ah.o;by_cases ag:d=x
    · have e0:decide (d=x)=true:=zt ag;rw[e0]at EQ;have aH:=zh ag;clear ag e0;go_wp2_with fail;refine hK _ _ (az (Yb _ _)) ?_;clear hK K;refine Tc.aF (l:=[]) rfl (fun K hK=>?_);refine(show wpList _ _ _ [] _ _ from hK _ _ ?_);clear hK K EQ GD;go_wp2_with fail;go_ret;exact⟨.inr ⟨k,ak.o,by rw[EX.o,aH.o],rfl⟩,C4.o⟩
    · have e0:decide (d=x)=false:=zT ag;rw[e0]at EQ;clear ag e0;go_wp2_with fail;refine hK _ _ (az (Yb _ _)) ?_;clear hK K;refine Tc.aF (l:=[]) rfl (fun K hK=>?_);refine(show wpList _ _ _ [] _ _ from hK _ _ ?_);clear hK K EQ GD;go_wp2_with fail;go_roundg(gk - 1);case measure=>have :=ak.o;have :=HK.o;omega
      case rel=>
       go_light;exact⟨k+1,by have :=ak.o;have :=HK.o;omega,by go_num,B4⟩
  · obtain⟨d0,d1⟩:=zk af;clear af hk;go_wp2_with fail;go_ret;exact⟨.inl rfl,B3.o⟩
theorem Po(l:List Sc)(d:Sc)(la:Option Addr)(lc:Nat)(w:World)(hv:aN 35 w (.slice la l.length lc) l.length (fun i=>scC (l.getD i sc0)))(hn:l.length≤1000000)(hl:∀x∈l,ScW x)(hd:ScW d):
 Calls Tryz.prog 17 #[.slice la l.length lc,scA d] w fun e w'=>∃b,e=.returned (.bool b)∧(b=true→d∈l)∧Below w.heap.size w w':=by
 have IX:=zh (fun W (b:Below w.heap.size w W)=>Oh l d la lc W (hv.below b) hn hl hd);have HG:=zh (fun k (hk:k < l.length) (h:l.getD k sc0=d)=>(show d∈l from h▸aK hk));obtain⟨n,ae⟩:=zg l.length;rw[ae]at IX HG ⊢;clear hv hn hl hd ae;go_in;have B0:=zh (Yb w.heap.size w);go_upto_region 1 with fail;obtain⟨w1,af,b1,z1,D1⟩:=zW w 37 35 (scC d);rw[af];(try rw[z1]);have B1:=zD B0 b1;clear b1 af z1 B0;go_wp2_with(with_reducible refine zS 6 ?_);refine zh (zL D1 rfl YT ?_);go_wp2_with fail;refine(IX.o w1 B1.o).mono ?_;rintro e w2 ⟨he,b2⟩;have B2:=zD B1 b2;clear b2 IX;rcases he with rfl | ⟨k,hk,hd,rfl⟩
 · go_wp2_with fail;go_ret;exact⟨false,by simp,(fun h=>by cases h),B2.o⟩
 · have HM:=zh (HG.o k hk hd);have d0:decide ((0:Int)≤(k:Int))=true:=zt (by omega);have d1:decide ((k:Int)≥0)=true:=d0;clear hk hd;go_wp2_with fail;go_ret;exact⟨true,by simp,fun _=>HM.o,B2.o⟩
theorem Pz(dev:Int)(fs:List Fo)(os:List Ow)(cs:List Cm)(f o v:Hd)(vs:Nat→CmV)(s:Sc)(w:World)(hA:Apart cs aV (oD os dev) dev)(hr:uj w f o v fs os cs vs)(hw:RcW fs os cs)(hs:ScW s):
 Calls Tryz.prog 8 #[.agg (ah 8 (reC f o v)),.int .i64 dev,scA s] w fun e w'=>∃b,e=.returned (.bool b)∧(b=true→GoodS cs (oD os dev) dev s)∧Below w.heap.size w w':=by
 have FR:=zh (fun W (b:Below w.heap.size w W)=>Ia dev fs os cs f o v vs W hA (hr.below b) hw);have LS:=zh (fun(l0:List Sc) la lk W (b:Below w.heap.size w W)=>vO (own:=oD os dev) (dev:=dev) fs os cs f o v vs l0 la lk W hA (hr.below b) hw);have MM:Hid (fs.length*cs.length≤21):=zh (Nat.mul_le_mul hw.fl hw.cw.len);have SW:=zh hs;obtain⟨rc,ak⟩:=zg (reC f o v);rw[ak]at FR LS ⊢;clear hA hr hw hs ak;go_in;have B0:=zh (Yb w.heap.size w);go_upto_region 1 with fail;obtain⟨w1,au,b1,z1,Z1⟩:=zW w 31 8 rc;rw[au];(try rw[z1]);have B1:=zD B0 b1;clear b1 au z1 B0;refine(show Code.wp _ _ _ _ (w1.alloc (.cells (ah 35 (scC s)) 37))from ?_);obtain⟨w2,ay,b2,z2,S2⟩:=zW w1 37 35 (scC s);rw[ay];(try rw[z2]);have B2:=zD B1 b2;have Z2:=zh (Z1.below b2);clear b2 ay z2 B1 Z1;have LZ:=zh Z2.lt;have aG:=zh S2.lt
 refine Tc.aA (keep w2.heap.size) 7 [] (.fl 0 (.fl 1 (.fl 2 (.fl 5 (.one 3 (.one 4 (.one 6 .done))))))) (by kernel_rfl) (by kernel_rfl) ?_;intro w3 b3 e3;have af:Hid (Below w2.heap.size w2 w3):=zh b3;clear b3 e3;refine Tc.aj [0,1,2,5] [_,_,_,_] rfl ?_;dsimp only[zx,zy,zz];(repeat(go_big_quiet_step(exact fun _=>rfl)));refine zq w.heap.size 0 rfl 8 Zf rc rc (fun W hW=>bG (n:=w2.heap.size) (Z2.below af.o) LZ.o hW) (by decide) (fun j _=>by rw[Yl]) ?_;simp only[Act.put,zu];(repeat(go_big_quiet_step(exact fun _=>rfl)));refine zq w.heap.size 0 rfl 8 Zf rc rc (fun W hW=>bG (n:=w2.heap.size) (Z2.below af.o) LZ.o hW) (by decide) (fun j _=>by rw[Yl]) ?_;simp only[Act.put,zu];(repeat(go_big_quiet_step(exact fun _=>rfl)));refine zq w1.heap.size 0 rfl 35 YT (scC s) (scC s) (fun W hW=>bG (n:=w2.heap.size) (S2.below af.o) aG.o hW) (by decide) (fun j _=>by rw[Yl]) ?_;simp only[Act.put,zu]
 (repeat(go_big_quiet_step(exact fun _=>rfl)));refine wpQuiet_nil ?_;refine Tc.ae 3 rfl (fun K hK=>?_);go_wp2_with fail;refine(FR.o w3 (B2.trans (af.mono B2.size))).mono ?_;rintro e w4 ⟨u,l,rfl,ho,hg,hl,bq⟩;have bb:=bq.mono af.size;have ag:=zh (af.trans bb);obtain⟨la,lk,rfl⟩:=ho.slice;have LX:=zh (LS.o l la lk w4 (B2.trans (ag.mono B2.size)) (ax.at1 sc0 (by decide) (by decide) ho (by omega)) (by omega) hg);have LL:=zh hl;obtain⟨nl,aB⟩:=zg l.length;rw[aB]at LX LL ⊢;go_wp2_with fail;refine hK _ _ (az bb) ?_;clear hK K bb bq af ho hg hl FR LS aB;refine Tc.ae 4 rfl (fun K hK=>?_);go_wp2_with fail;refine LX.mono ?_;rintro e w5 ⟨⟨a,k,lst,rfl,hs,hg,hl,aH,bq⟩⟩;have bb:=bq.mono ag.size;have ai:=zh (ag.trans bb);have CT:=zh (Po lst s a k w5 hs (by have h1:=LL.o;have h2:=MM.o;omega) (fun x hx=>(hg x hx).1) SW.o);have HG:=zh (fun h=>(hg s h).2);obtain⟨n2,aC⟩:=zg lst.length;rw[aC]at CT ⊢
 go_wp2_with fail;refine hK _ _ (az bb) ?_;clear hK K bb bq ag hs hg hl aH LX aC;refine Tc.ae 6 rfl (fun K hK=>?_);go_wp2_with fail;refine CT.mono ?_;rintro e w6 ⟨b,rfl,hb,bq⟩;have bb:=bq.mono ai.size;have aI:=zh (ai.trans bb);have HB:=zh hb;go_wp2_with fail;refine hK _ _ (az bb) ?_;clear hK K bb bq ai hb CT;refine Tc.aF (l:=[_]) rfl (fun K hK=>?_);go_wp2_with fail;go_ret;exact⟨b,rfl,fun h=>HG.o (HB.o h),B2.trans (aI.mono B2.size)⟩
theorem FQ{own:Int→Prop}{dev:Int}(fs:List Fo)(os:List Ow)(cs:List Cm)(f o v:Hd)(vs:Nat→CmV)(l0:List Sc)(la:Option Addr)(lk:Nat)(w:World)(hA:Apart cs aV own dev)(hr:uj w f o v fs os cs vs)(hw:RcW fs os cs)
 (hs:aN 35 w (.slice la l0.length lk) l0.length (fun i=>scC (l0.getD i sc0))) (hl:l0.length≤1000) (hg:∀s∈l0,ScG cs own dev s):
 Calls Tryz.prog 4 #[.agg (ah 8 (reC f o v)),.slice la l0.length lk] w fun e w'=>∃(u:Value) (l:List Sc),e=.returned u∧ax 37 35 scC w' w.heap.size u l∧l.length≤l0.length+75*(fs.length*cs.length)∧(l0≠[]→l≠[])∧Below w.heap.size w w':=by
 have LS:=zh (fun W (b:Below w.heap.size w W)=>vO (own:=own) (dev:=dev) fs os cs f o v vs l0 la lk W hA (hr.below b) hw (hs.below b) hl hg);obtain⟨mm,af⟩:=zg (l0.length+75*(fs.length*cs.length));have MM:Hid (mm≤3000):=zh (by have h1:=Nat.mul_le_mul hw.fl hw.cw.len;omega);rw[af]at LS ⊢;obtain⟨rc,ag⟩:=zg (reC f o v);obtain⟨n0,ai⟩:=zg l0.length;rw[ag,ai]at LS ⊢;clear hA hr hw hs hg ag af hl ai;go_in;have B0:=zh (Yb w.heap.size w);go_upto_region 1 with fail;obtain⟨w1,aj,b1,z1,Z1⟩:=zW w 31 8 rc;rw[aj];(try rw[z1]);have B1:=zD B0 b1;clear b1 aj z1 B0;go_wp2_with(with_reducible refine zS 5 ?_);refine zh (zL Z1 rfl Zf ?_);go_wp2_with fail;refine(LS.o w1 B1.o).mono ?_;rintro e w2 ⟨⟨a,k,lst,rfl,hs,hg,hl,ak,b2⟩⟩;have SR:=zh (oU lst a k w2 hs (by have h1:=MM.o;omega) (fun x hx=>(hg x hx).1));have B2:=zD B1 b2;have HL:=zh hl;have HN:=zh ak;have LW:=zh B2.size;obtain⟨n2,ae⟩:=zg lst.length
 have au:=zh ae;rw[ae]at SR HL ⊢;clear hs hg hl ak b2 ae LS;go_wp2_with fail;refine SR.mono ?_;rintro e w3 ⟨u,l,rfl,ho,hm,hl,b3⟩;have O3:=zh (ho.mono LW.o);have B3:=zD B2 b3;have L3:=zh (show l.length≤mm by have h1:=HL.o;have h2:=au.o;omega)
 have N3:Hid (l0≠[]→l≠[]):=zh (fun h e=>by
  have h2:=HN.o h
  cases hq:lst with
  | nil=>exact h2 hq
  | cons x r=>have h3:=(hm x).2 (by rw[hq];simp);rw[e]at h3;cases h3)
 clear ho hm hl b3 SR;go_wp2_with fail;go_ret;exact⟨u,l,rfl,O3.o,L3.o,N3.o,B3.o⟩
end Go.Proofs.YtfddbnmfllgifaaGreatDoor
