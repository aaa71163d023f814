/- Part of TopMembers. -/
import Derived.Test.YtfddbnmfllgifaaGreatDoorA2
import Derived.Deep.CutBlock
import Derived.Deep.DeepCutAuto
import Derived.StillTailTactics
import Derived.Deep.MidRow
import Derived.Test.YtfddbnmfllgifaaGreatDoorA6
set_option linter.unusedVariables false
set_option linter.unusedSimpArgs false
set_option maxHeartbeats 64000000
set_option maxRecDepth 100000
namespace Go.Proofs.YtfddbnmfllgifaaGreatDoor
open Go.RowKit
open Sha (Wd St)
theorem uA{f:FuncId}{args:Array Value}{w:World}{v:Value}(h:Calls Tryz.prog f args w fun e w'=>e=.returned v∧w=w'):Calls Tryz.prog f args w fun e w'=>e=.returned v∧w'=w:=h.mono fun _ _ ⟨a,b⟩=>⟨a,b.symm⟩
theorem Bo{P:Program}{id:Nat}{Q:Exit→Act→World→Prop}{a:Act}{w:World}{l:List Oper}(n:Nat)(hm:P.follows .mixedOrders=true)(hB:Region.lexTailB .any l.toArray n=true)
 (h:wpStill P l.toArray w.drew (fun a'=>wpList P l.toArray Q (l.drop n) a' w.drew) (l.take n) a):(Code.region id l.toArray true).wp P Q a w:=wp_region_still_tail n hm hB h
def KAt(w:World):Prop:=4 < w.heap.size∧∀t,t < 64→w.cell? ⟨4,t,none⟩=some (vU (Sha.K t))
theorem KAt.below{w w':World}(h:KAt w)(hb:Below w.heap.size w w'):KAt w':=
 ⟨Yg h.1 hb.size,fun t ht=>(hb.cell (p:=⟨_,t,none⟩) h.1).trans (h.2 t ht)⟩
theorem KAt.only {w w':World}{B:Nat}(h:KAt w)(hb:aG B w w')(hB:4≠B):KAt w':=
 ⟨Yg h.1 hb.size,fun t ht=>(hb.cell (p:=⟨_,t,none⟩) h.1 hB).trans (h.2 t ht)⟩
theorem xB{w w':World}{b off n:Nat}{g:Nat→Value}(h:∀j,j < n→w.cell? ⟨b,off+j,none⟩=some (g j))(ae:b < w.heap.size)(hb:Below w.heap.size w w'):∀j,j < n→w'.cell? ⟨b,off+j,none⟩=some (g j):=
 fun j hj=>(hb.cell (p:=⟨b,off+j,none⟩) ae).trans (h j hj)
def gU(c:Nat→UInt8)(t:Nat):Nat→Value:=fun i=>vU (if i < t then Sha.sched (Sha.eX c) i else 0)
def qC(c:Nat→UInt8)(w:World)(bw t:Nat)(wx:World):Prop:=ag wx bw 320 64 (gU c t)∧Below bw w wx
theorem qC.step{c:Nat→UInt8}{w wx:World}{bw t:Nat}(h:qC c w bw t wx){x:Wd}(hx:x=Sha.sched (Sha.eX c) t):qC c w bw (t+1) (wx.setCell ⟨bw,t,none⟩ (vU x)):=by
 refine⟨h.1.put fun i _=>?_,h.2.setCell (p:=⟨bw,t,none⟩) (Ya _) _⟩;subst hx;unfold gU;by_cases hi:i=t
 · subst hi;rw[if_pos rfl,if_pos (by omega)]
 · rw[if_neg hi];by_cases h2:i < t
   · rw[if_pos h2,if_pos (by omega)]
   · rw[if_neg h2,if_neg (by omega)]
theorem qC.drew{c:Nat→UInt8}{w wx:World}{bw t:Nat}(h:qC c w bw t wx):qC c w bw t wx.drew:=⟨h.1,h.2.drew⟩
theorem qC.drewN{c:Nat→UInt8}{w wx:World}{bw t:Nat}(h:qC c w bw t wx)(n:Nat):qC c w bw t (wx.drewN n):=⟨h.1,⟨h.2.os,h.2.tape,h.2.output,h.2.size,h.2.block⟩⟩
theorem qC.cell{c:Nat→UInt8}{w wx:World}{bw t i:Nat}(h:qC c w bw t wx)(hi:i < t)(ht:t≤64):wx.cell? ⟨bw,i,none⟩=some (vU (Sha.sched (Sha.eX c) i)):=by
 rw[h.1.cell (by omega)];unfold gU;rw[if_pos hi]
def Nk(c:Nat→UInt8)(s:St)(w:World)(bw bv t:Nat)(wx:World):Prop:=
 ag wx bv 272 8 (fun i=>vU ((Sha.Jl (Sha.sched (Sha.eX c)) s t).o i))∧ag wx bw 320 64 (gU c 64)∧Below bw w wx∧bw < bv
theorem Nk.drewN{c:Nat→UInt8}{s:St}{w wx:World}{bw bv t:Nat}(h:Nk c s w bw bv t wx)(n:Nat):Nk c s w bw bv t (wx.drewN n):=⟨h.1,h.2.1,⟨h.2.2.1.os,h.2.2.1.tape,h.2.2.1.output,h.2.2.1.size,h.2.2.1.block⟩,h.2.2.2⟩
def OJ(r s:St)(w:World)(bs bv T i:Nat)(wx:World):Prop:=
 ag wx bs T 8 (fun j=>vU (if j < i then s.o j+r.o j else s.o j))∧ag wx bv 272 8 (fun j=>vU (r.o j))∧aG bs w wx
theorem OJ.drewN{r s:St}{w wx:World}{bs bv T i:Nat}(h:OJ r s w bs bv T i wx)(n:Nat):OJ r s w bs bv T i (wx.drewN n):=⟨h.1,h.2.1,⟨h.2.2.os,h.2.2.tape,h.2.2.output,h.2.2.size,h.2.2.block⟩⟩
theorem St.Qi(s v:St):∀i,i < 8→(Sha.plus s v).o i=s.o i+v.o i
 | 0,_=>rfl
 | 1,_=>rfl
 | 2,_=>rfl
 | 3,_=>rfl
 | 4,_=>rfl
 | 5,_=>rfl
 | 6,_=>rfl
 | 7,_=>rfl
theorem VG(k w:Wd)(r:St):∀i,i < 8→(if i=0 then vU (r.h+Sha.S1 r.e+Sha.ch r.e r.f r.g+k+w+(Sha.S0 r.a+Sha.maj r.a r.b r.c))else if i=4 then vU (r.d+(r.h+Sha.S1 r.e+Sha.ch r.e r.f r.g+k+w))else if 1≤i∧i < 1+7 then vU (r.o (i - 1))else vU (r.o i))=vU ((Sha.rnd k w r).o i)
 | 0,_=>rfl
 | 1,_=>rfl
 | 2,_=>rfl
 | 3,_=>rfl
 | 4,_=>rfl
 | 5,_=>rfl
 | 6,_=>rfl
 | 7,_=>rfl
theorem uN(bs b off cap T:Nat)(s:St)(c:Nat→UInt8)(w:World)(hs:ag w bs T 8 (fun i=>vU (s.o i)))(aY:64≤cap)(hm:(cap:Int)≤9223372036854775807)
 (hb:b < w.heap.size) (hc:∀j,j < 64→w.cell? ⟨b,off+j,none⟩=some (vB (c j))) (hk:KAt w):
 Calls Tryz.prog 167 #[.pointer (some ⟨bs,0,none⟩),.slice (some ⟨b,off,none⟩) 64 cap] w fun e w'=>e=.returned (.tuple #[])∧ag w' bs T 8 (fun i=>vU ((Sha.comp s (Sha.eX c)).o i))∧aG bs w w':=by
 have Hs:=zh hs;have Hc:=zh hc;have Hk:=zh hk;have aZ:=hs.lt;clear hs hc hk;go_in;go_wp2_with fail;have I0:Hid (qC c w w.heap.size 0 (w.alloc (.cells (ah 64 fun _=>.int .u32 0) 320))):=zh ⟨(ag.new w 320 64 _).congr fun i _=>rfl,Below.alloc (Yb _ _) (Ya _) _⟩;change Code.wp _ _ _ _ (w.alloc (.cells (ah 64 fun _=>.int .u32 0) 320));obtain⟨w1,aI⟩:=zg (w.alloc (.cells (ah 64 fun _=>.int .u32 0) 320));rw[aI]at I0 ⊢;clear aI;obtain⟨bw,aA⟩:=zg w.heap.size;have au:=zh aA;rw[aA]at hb aZ I0 ⊢;clear aA;go_loopg [5,14] 16 (fun g s5 bf wx=>∃t:Nat,t+g=16∧bf=.int .i64 (t:Int)∧Hid (qC c w bw t wx));case atStart=>exact⟨0,by omega,rfl,I0⟩
 case round=>
  obtain⟨t,ht,rfl,hI⟩:=hrel;clear I0;by_cases aj:t < 16
  · have d0:decide ((t:Int) < 16)=true:=zt (by omega);have z1:=Ye t;have z2:(t:Int) < 16:=(by omega);have z3:((t:Int)).toNat=t:=Int.toNat_natCast t;have z4:(t:Int) < 64:=(by omega);have hr:=hI.1;have c1:=hr.cell (show t < 64 by omega);have c2:=hr.frozen t
    have hw:=TD b (off+4*t) (64 - 4*t) (cap - 4*t) (fun j=>c (4*t+j)) wr (by omega) (by omega) (fun j hj=>by
     have hz:Below w.heap.size w wr:=(by rw[au.o];exact hI.2);rw[Nat.add_assoc]
     exact xB (g:=fun j=>vB (c j)) Hc.o (by rw[au.o];exact hb) hz (4*t+j) (by omega))
    have ae:=zh (hI.step (t:=t) (x:=Sha.wI (c (4*t+0)) (c (4*t+1)) (c (4*t+2)) (c (4*t+3))) (by rw[Sha.Va _ aj];rfl));obtain⟨x,hx⟩:=zg (Sha.wI (c (4*t+0)) (c (4*t+1)) (c (4*t+2)) (c (4*t+3)));rw[hx]at hw ae;have Hw:=zh hw;obtain⟨v0,ay⟩:=zg (gU c t t);rw[ay]at c1;clear hw hx hr ay;go_wp2_with fail;refine(Hw.o).mono ?_;rintro e w' ⟨rfl,rfl⟩;go_wp2_with fail;go_roundg(gk - 1);(case measure=>omega);case rel=>exact⟨t+1,by omega,by go_num,ae⟩
  · have d0:decide ((t:Int) < 16)=false:=zT (by omega);obtain rfl:t=16:=(by omega);clear ht aj;go_wp2_with fail;clear d0;go_loopg [6,7,8] 48 (fun g s6 s7 s8 wx=>∃t:Nat,t+g=64∧16≤t∧s6=.int .i64 (t:Int)∧Hid (qC c w bw t wx));case atStart=>exact⟨16,by omega,by omega,rfl,hI⟩
    case round=>
     clear hI;obtain⟨t,ht,aj,rfl,hI⟩:=hrel;by_cases af:t < 64
     · have d0:decide ((t:Int) < 64)=true:=zt (by omega);have z2:(t:Int) < 64:=(by omega);have z3:((t:Int)).toNat=t:=Int.toNat_natCast t;have bG:(16:Int)≤(t:Int):=(by omega);have bH:((t:Int) - 15).toNat=t - 15:=(by omega);have e2:((t:Int) - 2).toNat=t - 2:=(by omega);have bI:((t:Int) - 16).toNat=t - 16:=(by omega);have e7:((t:Int) - 7).toNat=t - 7:=(by omega);have hi:=hI.o;have bg:=hi.cell (show t - 15 < t by omega) (by omega);have c2:=hi.cell (show t - 2 < t by omega) (by omega);have bn:=hi.cell (show t - 16 < t by omega) (by omega);have c7:=hi.cell (show t - 7 < t by omega) (by omega);have c0:=hi.1.cell (show t < 64 by omega);have f0:=hi.1.frozen t;have ae:=fun(y:Wd) (hy:y=_)=>hi.step (x:=y) (hy.trans (Sha.TT (Sha.eX c) (show ¬t < 16 by omega)).symm);obtain⟨aJ,aK⟩:=zg (Sha.sched (Sha.eX c) (t - 15));obtain⟨x2,h2⟩:=zg (Sha.sched (Sha.eX c) (t - 2));obtain⟨bJ,aN⟩:=zg (Sha.sched (Sha.eX c) (t - 16))
       obtain⟨x7,h7⟩:=zg (Sha.sched (Sha.eX c) (t - 7));obtain⟨v0,ay⟩:=zg (gU c t t);rw[aK]at bg ae;rw[h2]at c2 ae;rw[aN]at bn ae;rw[h7]at c7 ae;rw[ay]at c0;have aB:=zh ae;have a1:=fun y z=>SK y z;have a2:=fun y z=>JS y z;have a3:∀x:Wd,U x / (8:Int)=U (x >>> 3):=fun x=>lX x 3;have a4:∀x:Wd,U x / (1024:Int)=U (x >>> 10):=fun x=>lX x 10;clear aK h2 aN h7 ay ae hi;go_upto_region 9 with fail;go_quiet (fail);have q7:=fun w=>uA (rot7 aJ w);have aO:=fun w=>uA (rot18 aJ w);have aP:=fun w=>uA (rot17 x2 w);have aQ:=fun w=>uA (rot19 x2 w);have bK:IntKind.i64.wrap ((t:Int) - 16)=(t:Int) - 16:=(by rw[IntKind.wrap_i64];omega);have w7:IntKind.i64.wrap ((t:Int) - 7)=(t:Int) - 7:=(by rw[IntKind.wrap_i64];omega);have y7:(7:Int)≤(t:Int):=(by omega);have bM:0≤(t:Int) - 16∧(t:Int) - 16 < 64:=(by omega);have p7:0≤(t:Int) - 7∧(t:Int) - 7 < 64:=(by omega);have p0:0≤(t:Int)∧(t:Int) < 64:=by omega
       have Q7:=zh q7;have bu:=zh aO;have bz:=zh aP;have bC:=zh aQ;clear q7 aO aP aQ;go_upto_region 10 with fail;refine Bo 29 (by kernel_rfl) (by kernel_rfl) ?_;simp only[Xe,List.take_zero,Xf,List.drop_zero];repeat still_step
       still_call (Q7.o _)
       repeat still_step
       still_call (bu.o _)
       repeat still_step
       still_call (bz.o _)
       repeat still_step
       still_call (bC.o _)
       (repeat still_step);refine wpStill_nil ?_;go_wp2_with fail;go_roundg(gk - 1);case measure=>omega
       case rel=>
        go_light;exact⟨t+1,by omega,by omega,by go_num,zh ((aB.o _ rfl).drewN _)⟩
     · have d0:decide ((t:Int) < 64)=false:=zT (by omega);obtain rfl:t=64:=(by omega);have hi:=hI.o;have hold:Below w.heap.size w wr:=(by rw[au.o];exact hi.2);have ak:ag wr bs T 8 (fun i=>vU (s.o i)):=Hs.below hold;have v0:=ak.cell (show 0 < 8 by decide);have v1:=ak.cell (show 1 < 8 by decide);have v2:=ak.cell (show 2 < 8 by decide);have v3:=ak.cell (show 3 < 8 by decide);have v4:=ak.cell (show 4 < 8 by decide);have v5:=ak.cell (show 5 < 8 by decide);have v6:=ak.cell (show 6 < 8 by decide);have v7:=ak.cell (show 7 < 8 by decide);have az:=hi.2.size;clear ak ht af aj hi;simp only[Sha.St.o]at v0 v1 v2 v3 v4 v5 v6 v7;go_wp2_with fail
       have I1:Hid (Nk c s w bw wr.heap.size 0 (wr.alloc (.cells (ah 8 fun i=>vU (s.o i)) 272))):=
        zh ⟨ag.new wr 272 8 _,hI.1.alloc _,hI.2.alloc (by rw[←au.o];exact az) _,hI.1.lt⟩
       change Code.wp _ _ _ _ (wr.alloc (.cells (ah 8 fun i=>vU (s.o i)) 272));obtain⟨w2,aC⟩:=zg (wr.alloc (.cells (ah 8 fun i=>vU (s.o i)) 272));obtain⟨bv,aF⟩:=zg wr.heap.size;rw[aC,aF]at I1;rw[aC,aF];clear aC aF v0 v1 v2 v3 v4 v5 v6 v7 hold az d0 hI;go_loopg [10,11,12,69] 64 (fun g bP bQ bT bD wx=>∃t:Nat,t+g=64∧bD=.int .i64 (t:Int)∧Hid (Nk c s w bw bv t wx));case atStart=>exact⟨0,by omega,rfl,I1⟩
       case round=>
        clear I1;obtain⟨t,ht,rfl,hJ⟩:=hrel;by_cases af:t < 64
        · have d0:decide ((t:Int) < 64)=true:=zt (by omega);have z1:=Ye t;have z2:(t:Int) < 64:=(by omega);have z3:((t:Int)).toNat=t:=Int.toNat_natCast t;have hj:=hJ.o;have hold:Below w.heap.size w wr:=(by rw[au.o];exact hj.2.2.1);have ck:=(Hk.below hold).2 t af;have cw:=hj.2.1.cell af;rw[show gU c 64 t=vU (Sha.sched (Sha.eX c) t)from by unfold gU;rw[if_pos af]]at cw
          have ae:=fun(wx:World) (h:ag wx bv 272 8 (fun i=>vU ((Sha.rnd (Sha.K t) (Sha.sched (Sha.eX c) t) (Sha.Jl (Sha.sched (Sha.eX c)) s t)).o i))) (ho:aG bv wr wx)=>
           (show Nk c s w bw bv (t+1) wx from⟨h,ho.row (Nat.ne_of_lt hj.2.2.2) hj.2.1,hj.2.2.1.trans (ho.below (Yv hj.2.2.2) (Yv hj.2.1.lt)),hj.2.2.2⟩)
          have hv:=hj.1;obtain⟨r,hr⟩:=zg (Sha.Jl (Sha.sched (Sha.eX c)) s t);obtain⟨wt,aS⟩:=zg (Sha.sched (Sha.eX c) t);obtain⟨kt,aT⟩:=zg (Sha.K t);rw[hr]at hv ae;rw[aS]at cw ae;rw[aT]at ck ae;have v0:=hv.cell (show 0 < 8 by decide);have v1:=hv.cell (show 1 < 8 by decide);have v2:=hv.cell (show 2 < 8 by decide);have v4:=hv.cell (show 4 < 8 by decide);have v5:=hv.cell (show 5 < 8 by decide);have v6:=hv.cell (show 6 < 8 by decide);have v7:=hv.cell (show 7 < 8 by decide);simp only[Sha.St.o]at v0 v1 v2 v4 v5 v6 v7;have Hv:=zh hv;have aB:=zh ae;have a1:=fun y z=>SK y z;have a2:=fun y z=>JS y z;have a3:=fun y z=>U_and y z;have a4:=fun y z=>qX y z;clear hv ae hr aS aT hold hj;go_upto_region 15 with fail;go_quiet ((go_at_call 205;exact yz (Rf _ _)));rw[Sha.ch_is];go_upto_region 16 with fail;go_quiet ((go_at_call 205;exact qsame2 (RH _ _)));rw[Sha.maj_is];go_upto_region 17 with fail
          refine Bo 2 (by kernel_rfl) (by kernel_rfl) ?_;simp only[Xe,List.take_zero,Xf,List.drop_zero];(repeat still_step);refine wpStill_nil ?_;refine kZ rfl (.tmp 116) (.tmp 117) 324 324 rfl 186 Tryz.underlying324 (by kernel_rfl) bv 1 7 7 ⟨bv,0,none⟩ 7 8 rfl rfl 8 7 272 (fun i=>vU (r.o i)) (fun i=>vU (r.o i)) Hv.o rfl ?c1 (by decide) (fun _ _=>rfl) ?_
          case c1=>
           intro j hj;go_light;have :=Hv.cell (show j < 8 by omega);rw[Addr.add_mid,Yl];exact this
          intro w4 ax aU;clear v0 v1 v2 v4 v5 v6 v7 ck cw;have bF:=zh (aG.trans (b:=((wr.drewN _).drewN nq).drew) (a:=wr) ⟨rfl,rfl,rfl,Ya _,fun _ _ _=>rfl⟩ aU.o);have c4:=ax.cell (show 4 < 8 by decide);have c0:=ax.cell (show 0 < 8 by decide);have f4:=ax.frozen 4;have f0:=ax.frozen 0;simp only[Nat.reduceLeDiff,Nat.reduceLT,Nat.reduceAdd,and_self,if_true,Nat.reduceSub,Sha.St.o,if_false,false_and]at c4 c0;have ai:=zh (aB.o ((w4.setCell ⟨bv,4,none⟩ (vU (r.d+(r.h+Sha.S1 r.e+Sha.ch r.e r.f r.g+kt+wt)))).setCell ⟨bv,0,none⟩ (vU (r.h+Sha.S1 r.e+Sha.ch r.e r.f r.g+kt+wt+(Sha.S0 r.a+Sha.maj r.a r.b r.c)))) (((ax.set 4 _).set 0 _).congr (VG kt wt r)) ((bF.setCell (.inl rfl) _).setCell (.inl rfl) _));clear ax aU;go_wp2_with fail;go_roundg(gk - 1);case measure=>omega
          case rel=>
           go_light;exact⟨t+1,by omega,by go_num,ai⟩
        · have d0:decide ((t:Int) < 64)=false:=zT (by omega);obtain rfl:t=64:=(by omega);clear ht af;obtain⟨r,hr⟩:=zg (Sha.Jl (Sha.sched (Sha.eX c)) s 64);have hj:=hJ.o;have hold:Below w.heap.size w wr:=by rw[au.o];exact hj.2.2.1
          have I2:Hid (OJ r s w bs bv T 0 wr):=by
           refine zh ⟨(Hs.below hold).congr fun i _=>?_,by rw[←hr];exact hj.1,.of_below hold⟩;rw[if_neg (Nat.not_lt_zero i)]
          have az:bs≠bv:=(by have :=hj.2.2.2;omega);have Hr:=zh hr;clear hr hj hold hJ;go_wp2_with fail;clear d0;go_loopg [13,129] 8 (fun g bU aH wx=>∃i:Nat,i+g=8∧aH=.int .i64 (i:Int)∧Hid (OJ r s w bs bv T i wx));case atStart=>exact⟨0,by omega,rfl,I2⟩
          case round=>
           clear I2;obtain⟨i,hi,rfl,hL⟩:=hrel;by_cases aV:i < 8
           · have d0:decide ((i:Int) < 8)=true:=zt (by omega);have z1:=Ye i;have z2:(i:Int) < 8:=(by omega);have z3:((i:Int)).toNat=i:=Int.toNat_natCast i;have p0:0≤(i:Int)∧(i:Int) < 8:=(by omega);have c1:=hL.1.cell aV;rw[if_neg (Nat.lt_irrefl i)]at c1;have c2:=hL.2.1.cell aV;have f1:=hL.1.frozen i;have a1:=fun y z=>SK y z
             have ai:=zh (show OJ r s w bs bv T (i+1) (wr.setCell ⟨bs,i,none⟩ (vU (s.o i+r.o i)))from
                   ⟨hL.1.put fun j _=>by
                     by_cases hj:j=i
                     · subst hj;rw[if_pos rfl,if_pos (Nat.lt_succ_self j)]
                     · rw[if_neg hj];by_cases h2:j < i
                       · rw[if_pos h2,if_pos (by omega)]
                       · rw[if_neg h2,if_neg (by omega)],
                     hL.2.1.other (a:=⟨bs,i,none⟩) (Ne.symm az) _,hL.2.2.setCell (.inl rfl) _⟩)
             obtain⟨si,aW⟩:=zg (s.o i);obtain⟨ri,aX⟩:=zg (r.o i);rw[aW]at c1 ai;rw[aX]at c2 ai;clear aW aX;go_upto_region 24 with fail;refine Bo 11 (by kernel_rfl) (by kernel_rfl) ?_;simp only[Xe,List.take_zero,Xf,List.drop_zero];(repeat still_step);refine wpStill_nil ?_;go_wp2_with fail;go_roundg(gk - 1);case measure=>omega
             case rel=>
                   go_light;exact⟨i+1,by omega,by go_num,zh (ai.drewN 1)⟩
           · have d0:decide ((i:Int) < 8)=false:=zT (by omega);obtain rfl:i=8:=(by omega);go_wp2_with fail;go_end0;go_light;refine⟨rfl,hL.1.congr fun j hj=>?_,hL.2.2⟩;rw[if_pos hj];show _=vU ((Sha.plus s (Sha.Jl (Sha.sched (Sha.eX c)) s 64)).o j);rw[Hr.o,St.Qi _ _ _ hj]
def SAt(w:World):Prop:=3 < w.heap.size∧∀t,t < 8→w.cell? ⟨3,t,none⟩=some (vU (Sha.init.o t))
theorem SAt.below{w w':World}(h:SAt w)(hb:Below w.heap.size w w'):SAt w':=
 ⟨Yg h.1 hb.size,fun t ht=>(hb.cell (p:=⟨_,t,none⟩) h.1).trans (h.2 t ht)⟩
def Tab(w:World):Prop:=KAt w∧SAt w
theorem Tab.below{w w':World}(h:Tab w)(hb:Below w.heap.size w w'):Tab w':=⟨h.1.below hb,h.2.below hb⟩
def Gf(l:List UInt8):Value:=.agg (ah 32 fun i=>vB (l.getD i 0))
def rE(m:List UInt8)(j:Nat):UInt8:=(Sha.pad m).getD j 0
def xM(m:List UInt8)(w:World)(bd bs i:Nat)(wx:World):Prop:=
 ag wx bs 272 8 (fun j=>vU ((Sha.jk (rE m) Sha.init i).o j))∧ag wx bd 35 32 (fun _=>vB 0)∧Below bd w wx
theorem xM.next{m:List UInt8}{w wx wy:World}{bd bs i:Nat}(h:xM m w bd bs i wx)(ae:bd < bs)
 (hr:ag wy bs 272 8 (fun j=>vU ((Sha.comp (Sha.jk (rE m) Sha.init i) (Sha.eX fun j=>rE m (64*i+j))).o j))) (ho:aG bs wx wy):xM m w bd bs (i+1) wy:=
 ⟨hr,ho.row (Nat.ne_of_lt ae) h.2.1,h.2.2.trans (ho.below (Yv ae) (Yv h.2.1.lt))⟩
theorem WH(m md:List UInt8)(i r E:Nat)(ag:m.length=64*i+r)(hr:r < 64)(hE:Sha.ja m.length=E)(hEr:(55 < r→E=128)∧(¬55 < r→E=64))(hlen:m.length*8 < 2^64)(hd:∀j,md.getD j 0=m.getD (64*i+j) 0):
 ∀j,j < 128→putRow (E - 8) (E - (E - 8)) (m.length*8) (E - (E - 8)) (fun j=>vB (if j=r then 0x80 else if j < r then md.getD j 0 else 0)) j=vB (if j < E then rE m (64*i+j)else 0):=by
 intro j hj;have ae:m.length % 64=r:=by omega
 have hc:(55 < r∧E=128)∨(¬55 < r∧E=64):=by
  by_cases h:55 < r
  · exact .inl ⟨h,hEr.1 h⟩
  · exact .inr ⟨h,hEr.2 h⟩
 unfold putRow;dsimp only;by_cases af:j < E
 · have hp:=Sha.XV m (j:=j) (by rw[hE];exact af);rw[ae,show m.length - r=64*i by omega]at hp;rw[if_pos af,show rE m (64*i+j)=Sha.uu m j from hp];unfold Sha.uu;rw[ae,hE,show m.length - r=64*i by omega];by_cases h1:E≤j+8
   · rw[if_pos (by omega),if_neg (by omega),if_neg (by omega),if_pos h1];unfold jG Sha.uG;rw[Nat.mod_eq_of_lt hlen,show E - 8+(E - (E - 8)) - 1 - j=E - 1 - j by omega]
   · rw[if_neg (by omega)];by_cases h2:j < r
     · rw[if_neg (by omega),if_pos h2,if_pos h2,hd]
     · by_cases h3:j=r
       · rw[if_pos h3,if_neg h2,if_pos h3]
       · rw[if_neg h3,if_neg h2,if_neg h2,if_neg h3,if_neg h1]
 · rw[if_neg af,if_neg (by omega),if_neg (by omega),if_neg (by omega)]
def mX(S:St)(k:Nat)(j:Nat):Value:=vB (if j < 4*k then Sha.byteOf (S.o (j / 4)) (j % 4)else 0)
theorem EI(S:St){k:Nat}(hk:k < 8):∀j,j < 32→putRow (4*k) 4 (S.o k).toNat 4 (mX S k) j=mX S (k+1) j:=by
 intro j hj;unfold putRow mX;by_cases h1:4*k+4≤j+4∧j < 4*k+4
 · rw[if_pos h1,if_pos (by omega),show j / 4=k by omega];unfold jG Sha.byteOf;rw[show 8*(4*k+4 - 1 - j)=24 - 8*(j % 4)by omega]
 · rw[if_neg h1];by_cases h2:j < 4*k
   · rw[if_pos h2,if_pos (by omega)]
   · rw[if_neg h2,if_neg (by omega)]
theorem Jp(S:St):∀j,j < 32→mX S 8 j=vB ((Sha.jV S).getD j 0):=by
 intro j hj;unfold mX Sha.jV;rw[if_pos (by omega),Yd,Xg,Xh hj];rfl
theorem index8(S:St):∀k:Nat,k < 8→∀W:World,(Instr.index 272 (.agg #[vU S.a,vU S.b,vU S.c,vU S.d,vU S.e,vU S.f,vU S.g,vU S.h]) (.int .i64 (k:Int))).run Tryz.prog W=.ok (vU (S.o k)) W
 | 0,_,_=>by kernel_rfl
 | 1,_,_=>by kernel_rfl
 | 2,_,_=>by kernel_rfl
 | 3,_,_=>by kernel_rfl
 | 4,_,_=>by kernel_rfl
 | 5,_,_=>by kernel_rfl
 | 6,_,_=>by kernel_rfl
 | 7,_,_=>by kernel_rfl
theorem Oe(m:List UInt8)(i r E:Nat)(ae:m.length=64*i+r)(hr:r < 64)(hE:Sha.ja m.length=E):Sha.sum m=Sha.jV (Sha.jk (rE m) Sha.init (i+E / 64)):=by
 rw[Sha.sum_is,hE,show m.length / 64=i by omega];rfl
theorem sum_any(v:Value)(m:List UInt8)(w:World)(hv:BytesAt w v m)(hT:Tab w):
 Calls Tryz.prog 111 #[v] w (zr (Gf (Sha.sum m)) w):=by
 obtain⟨va,vc,rfl⟩:=hv.slice;have Hv:=zh hv;have HT:=zh hT;have s0:=hT.2.2 0 (by decide);have s1:=hT.2.2 1 (by decide);have s2:=hT.2.2 2 (by decide);have s3:=hT.2.2 3 (by decide);have s4:=hT.2.2 4 (by decide);have s5:=hT.2.2 5 (by decide);have s6:=hT.2.2 6 (by decide);have s7:=hT.2.2 7 (by decide);have hz:3 < w.heap.size:=hT.2.1;simp only[Sha.St.o]at s0 s1 s2 s3 s4 s5 s6 s7;clear hv hT;go_in;go_wp2_with fail;clear s0 s1 s2 s3 s4 s5 s6 s7 hz
 have I0:Hid (xM m w w.heap.size (w.heap.size+1) 0 ((w.alloc (.cells (ah 32 fun _=>vB 0) 35)).alloc (.cells (ah 8 fun j=>vU (Sha.init.o j)) 272))):=by
  refine zh ⟨?_,(ag.new w _ 32 _).alloc _,((Yb _ _).alloc (Ya _) _).alloc (by simp) _⟩;have :=ag.new (w.alloc (.cells (ah 32 fun _=>vB 0) 35)) 272 8 (fun j=>vU (Sha.init.o j));rw[Xi]at this;exact this
 change Code.wp _ _ _ _ ((w.alloc (.cells (ah 32 fun _=>vB 0) 35)).alloc (.cells (ah 8 fun j=>vU (Sha.init.o j)) 272));obtain⟨w1,bf⟩:=zg ((w.alloc (.cells (ah 32 fun _=>vB 0) 35)).alloc (.cells (ah 8 fun j=>vU (Sha.init.o j)) 272));rw[bf]at I0 ⊢;clear bf;obtain⟨bd,aQ⟩:=zg w.heap.size;obtain⟨bs,au⟩:=zg (bd+1);have aH:=zh aQ;have aI:bd < bs:=(by omega);rw[aQ,au]at I0 ⊢;have Hm:=zh (show((m.length:Nat):Int)≤140737488351232 from Hv.lQ);clear aQ au;go_loopg [5] (m.length / 64) (fun g s5 wx=>∃(i:Nat) (sv:Value),i+g=m.length / 64∧s5=sv∧Hid (BytesAt w sv (m.drop (64*i)))∧Hid (xM m w bd bs i wx));case atStart=>exact⟨0,_,by omega,rfl,zh (by rw[Nat.mul_zero,List.drop_zero];exact Hv.o),I0⟩
 case round=>
  clear I0;obtain⟨i,sv,hi,e5,hB,hI⟩:=hrel;obtain rfl:sv=_:=e5.symm;by_cases ak:64*i+64≤m.length
  · have hlen:(m.drop (64*i)).length=m.length - 64*i:=List.length_drop
    obtain⟨b,o,cap,rfl,h2,h4,aS,hcell⟩:∃b o cap:Nat,sv=.slice (some ⟨b,o,none⟩) (m.length - 64*i) cap∧m.length - 64*i≤cap∧(cap:Int)≤9223372036854775807∧b < w.heap.size∧∀j,j < m.length - 64*i→w.cell? ⟨b,o+j,none⟩=some (vB ((m.drop (64*i)).getD j 0)):=by
     rcases hB.o with⟨_,h⟩ | ⟨b,o,cap,h1,h2,_,h4,h5,h6⟩
     · exfalso;have :=congrArg List.length h;rw[hlen,Xc]at this;omega
     · rw[hlen]at h1 h2 h6;exact⟨b,o,cap,h1,h2,h4.2,h5,h6⟩
    have hold:Below w.heap.size w wr:=by rw[aH.o];exact hI.2.2
    have ax:=uN bs b o cap 272 (Sha.jk (rE m) Sha.init i) (fun j=>rE m (64*i+j)) wr hI.1 (by omega) h4 (Yg aS hold.size) (fun j hj=>by
     rw[hold.cell (p:=⟨b,o+j,none⟩) aS,hcell j (by omega),rJ];unfold rE
     rw[Sha.Rw m (by omega)]) (HT.1.below hold)
    have ay:=zh ax;have ae:=zh hcell;obtain⟨L,hL⟩:=zg (m.length - 64*i);have HL:=zh hL;rw[hL]at h2 ae ⊢;have hq:i+1≤m.length / 64:=(by omega);have bV:(64:Int)≤(L:Int):=(by omega);have bH:64≤L:=(by omega);have bI:64≤cap:=(by omega);have lm:(L:Int)≤140737488351232:=(by have :=Hm.o;omega);clear ax hcell hold hL;by_cases hc:cap=64
    · subst hc
      have hB':Hid (BytesAt w (.slice (some ⟨b,o,none⟩) (L - 64) (64 - 64)) (m.drop (64*(i+1)))):=by
       have :=BytesAt.NJ (w:=w) (b:=b) (o:=o) (k:=64) (l:=m.drop (64*i)) rfl (by rw[hlen,HL.o];exact h2);rw[hlen,HL.o,List.drop_drop,show 64*i+64=64*(i+1)by omega]at this;exact this
      obtain rfl:L=64:=(by omega);clear hlen ak;go_wp2_with fail;refine(ay.o).mono ?_;rintro e w' ⟨rfl,hr,ho⟩;have Hn:=zh (hI.next aI hr ho);clear hr ho;go_wp2_with fail;go_roundg(gk - 1);case measure=>omega
      case rel=>
       go_light;exact⟨i+1,_,by omega,rfl,hB',Hn⟩
    · have hB':Hid (BytesAt w (.slice (some ⟨b,o+64,none⟩) (L - 64) (cap - 64)) (m.drop (64*(i+1)))):=by
       have :=BytesAt.drop_at (w:=w) (b:=b) (o:=o) (cap:=cap) (k:=64) (l:=m.drop (64*i)) (by rw[hlen,HL.o];exact h2) ⟨by rw[hlen,HL.o];exact lm,h4⟩ aS (by rw[hlen,HL.o];exact ae.o) (by rw[hlen];omega);rw[hlen,HL.o,List.drop_drop,show 64*i+64=64*(i+1)by omega]at this;exact this
      have bJ:¬cap=64:=(by omega);clear hlen ak;go_wp2_with fail;refine(ay.o).mono ?_;rintro e w' ⟨rfl,hr,ho⟩;have Hn:=zh (hI.next aI hr ho);clear hr ho;go_wp2_with fail;go_roundg(gk - 1);case measure=>omega
      case rel=>
       go_light;exact⟨i+1,_,by omega,rfl,hB',Hn⟩
  · have hlen:(m.drop (64*i)).length=m.length - 64*i:=List.length_drop;obtain⟨bg,bK,rfl⟩:=hB.slice;rw[hlen]at hB ⊢;obtain⟨r,hr⟩:=zg (m.length - 64*i);have az:r < 64:=(by omega);have bn:m.length=64*i+r:=(by omega);have aJ:=zh bn;rw[hr]at hB ⊢;have d0:decide ((64:Int)≤(r:Int))=false:=zT (by omega);clear hlen hr bn ak hi;have bM:∀W:World,(Instr.makeSlice 130 (.int .i64 64) (.int .i64 128)).run Tryz.prog W=.ok (.slice (some ⟨W.heap.size,0,none⟩) 64 128) (W.alloc (.cells (ah 128 fun _=>vB 0) 5)):=fun _=>(by kernel_rfl);go_upto_region 8 with fail;clear bM;have R3:Hid (ag (wr.alloc (.cells (ah 128 fun _=>vB 0) 5)) wr.heap.size 5 128 (fun _=>vB 0)):=zh (ag.new wr _ 128 _);have I3:Hid (xM m w bd bs i (wr.alloc (.cells (ah 128 fun _=>vB 0) 5))):=zh ⟨hI.1.alloc _,hI.2.1.alloc _,hI.2.2.alloc (Yv hI.2.1.lt) _⟩;have aK:bs < wr.heap.size:=hI.1.lt;obtain⟨w3,aT⟩:=zg (wr.alloc (.cells (ah 128 fun _=>vB 0) 5))
    obtain⟨be,ai⟩:=zg wr.heap.size;rw[aT]at I3;rw[aT,ai]at R3 ⊢;rw[ai]at aK;clear aT ai hI d0;have hlen:(m.drop (64*i)).length=r:=by rw[List.length_drop,aJ.o];omega
    have aA:0 < r→∃ad,bg=some ad∧∀j,j < r→w3.cell? (ad.add j)=some (vB ((m.drop (64*i)).getD j 0)):=by
     intro h0;rcases hB.o with⟨⟨a,c,h1,_⟩,h⟩ | ⟨b,o,cap,h1,h2,_,h4,h5,h6⟩
     · rw[h]at hlen;simp at hlen;omega
     · cases h1;refine⟨_,rfl,fun j hj=>?_⟩;have hold:Below w.heap.size w w3:=(by rw[aH.o];exact I3.2.2);rw[Addr.add_mid,hold.cell (p:=⟨b,o+j,none⟩) h5];exact h6 j (by rw[hlen];exact hj)
    have aj:=zh aA;have aU:=zh (show r=Nat.min r 64 from(Nat.min_eq_left (by omega)).symm);have af:=zh (show ∀j,(m.drop (64*i)).getD j 0=m.getD (64*i+j) 0 from fun j=>rJ _ _ _);obtain⟨md,bu⟩:=zg (m.drop (64*i));rw[bu]at aj af;have bP:(r:Int) < 64:=(by omega);have bW:(0:Int)≤(r:Int):=(by omega);have rN:((r:Int)).toNat=r:=Int.toNat_natCast r;clear aA hlen hB bu;go_upto_region 9 with(refine uf (o:=⟨some 24,_,_,_,_,_⟩) rfl (.tmp 22) (.tmp 23) 130 130 rfl 5 Tryz.underlying130 (by kernel_rfl) be 0 64 128 bg r bK rfl rfl 128 r 5 _ (fun j=>vB (md.getD j 0)) R3.o aU.o aj.o (by omega) (fun _ _=>rfl) ?_;intro w4 aN aO);have c9:=aN.cell (show r < 128 by omega);have f9:=aN.frozen r;rw[if_neg (by omega)]at c9
    have I5:Hid (xM m w bd bs i (w4.setCell ⟨be,r,none⟩ (vB 0x80))):=zh
     ⟨(aO.row (Nat.ne_of_lt aK) I3.1).other (a:=⟨be,r,none⟩) (Nat.ne_of_lt aK) _,(aO.row (by omega) I3.2.1).other (a:=⟨be,r,none⟩) (show bd≠be by omega) _,
       (I3.2.2.trans (aO.below (by omega) (Yv I3.2.1.lt))).setCell (p:=⟨be,r,none⟩) (show bd≤be by omega) _⟩
    have R5:Hid (ag (w4.setCell ⟨be,r,none⟩ (vB 0x80)) be 5 128 (fun j=>vB (if j=r then 0x80 else if j < r then md.getD j 0 else 0))):=zh (aN.put fun j _=>by
     by_cases h1:j=r
     · rw[if_pos h1,if_pos h1]
     · rw[if_neg h1,if_neg h1];by_cases h2:j < r
       · rw[if_pos ⟨Nat.zero_le _,by omega⟩,if_pos h2,Nat.sub_zero]
       · rw[if_neg (by omega),if_neg h2])
    obtain⟨v9,bQ⟩:∃v:Value,vB 0=v:=⟨_,rfl⟩;obtain⟨w5,aV⟩:=zg (w4.setCell ⟨be,r,none⟩ (vB 0x80));have bz:=zh aV;rw[aV]at I5 R5;clear aV bQ aN aO I3 R3 aj;go_upto_if 31 with fail;change Code.wp _ _ _ _ (w4.setCell ⟨be,r,none⟩ (vB 0x80));rw[bz.o];clear c9 f9 bz;have aB:m.length % 64=r:=(by rw[aJ.o];omega);obtain⟨E,hE⟩:=zg (Sha.ja m.length)
    have hEr:(55 < r→E=128)∧(¬55 < r→E=64):=by
     rw[←hE];unfold Sha.ja;rw[aB];exact⟨fun h=>if_pos h,fun h=>if_neg h⟩
    have HE:=zh hE;have aC:=zh hEr;clear hE aB hEr;go_cut [6] (fun s6 wx=>w5=wx∧s6=.slice (some ⟨be,0,none⟩) E 128)
    case first =>
     by_cases aF:55 < r
     · have d1:decide ((55:Int) < (r:Int))=true:=zt (by omega);obtain rfl:E=128:=aC.1 aF;go_wp2_with fail;go_meet;exact⟨rfl,rfl⟩
     · have d1:decide ((55:Int) < (r:Int))=false:=zT (by omega);obtain rfl:E=64:=aC.2 aF;go_wp2_with fail;go_meet;exact⟨rfl,rfl⟩
    case rest=>
     obtain⟨rfl,rfl⟩:=hcut
     have bY:E=64∨E=128:=by
      by_cases aF:55 < r
      · exact .inr (aC.1 aF)
      · exact .inl (aC.2 aF)
     have e1:(64:Int)≤(E:Int):=(by omega);have e2:(E:Int)≤128:=(by omega);have e3:((E:Int) - 8).toNat=E - 8:=(by omega);have e4:¬128=E - 8:=(by omega);have e5:¬E - 8=128:=(by omega);have e6:=Hm.o;have hp:=put_any be (E - 8) (E - (E - 8)) (128 - (E - 8)) 128 5 (m.length*8) _ w5 R5.o (by omega) (by omega) (by omega) (by omega);rw[show((m.length*8:Nat):Int)=(m.length:Int)*8 by omega]at hp;have Hp:=zh hp;have aW:=zh (WH m md i r E aJ.o az HE.o aC.o (by omega) af.o);clear hp;go_wp2_with fail;refine(Hp.o).mono ?_;rintro e w6 ⟨rfl,bC,aP⟩;have R6:=zh (bC.congr aW.o);have I6:Hid (xM m w bd bs i w6):=zh ⟨aP.row (Nat.ne_of_lt aK) I5.1,aP.row (by omega) I5.2.1,I5.2.2.trans (aP.below (by omega) (Yv I5.2.1.lt))⟩;clear bC aP R5 I5;clear e1 e2 e3 e4 e5 e6;go_wp2_with fail
     go_loopg [6] (E / 64) (fun g s6 wx=>∃(k o' c':Nat),k+g=E / 64∧s6=.slice (some ⟨be,o',none⟩) (E - 64*k) c'∧(64*k < E→o'=64*k∧c'=128 - 64*k)∧Hid (xM m w bd bs (i+k) wx)∧Hid (ag wx be 5 128 (fun j=>vB (if j < E then rE m (64*i+j)else 0))));case atStart=>exact⟨0,0,128,by omega,rfl,fun _=>⟨rfl,rfl⟩,I6,R6⟩
     case round=>
      clear I6 R6;obtain⟨k,o',c',hk,rfl,bD,hI,hR⟩:=hrel;by_cases ak:64*k < E
      · obtain⟨rfl,rfl⟩:=bD ak;have hold:Below w.heap.size w wr:=by rw[aH.o];exact hI.2.2
        have ax:=uN bs be (64*k) (128 - 64*k) 272 (Sha.jk (rE m) Sha.init (i+k)) (fun j=>rE m (64*(i+k)+j)) wr hI.1 (by omega) (by omega) hR.lt (fun j hj=>by
         rw[hR.cell (by omega),if_pos (by omega),show 64*i+(64*k+j)=64*(i+k)+j by omega]) (HT.1.below hold)
        have ay:=zh ax;have bT:k=0∨k=1:=(by omega);clear ax hold;have au:bs≠be:=(by omega);rcases bT with rfl | rfl
        · have aX:E / 64 - (0+1) < gk:=(by omega);clear hk;go_wp2_with fail;refine(ay.o).mono ?_;rintro e w' ⟨rfl,hr,ho⟩;have Hn:=zh (hI.next aI hr ho);have Rn:=zh (ho.row (Ne.symm au) hR.o);clear hr ho;go_wp2_with fail;go_roundg(E / 64 - (0+1));case measure=>exact aX
          case rel=>
           go_light;exact⟨0+1,64,128 - 64,by omega,rfl,fun _=>⟨rfl,rfl⟩,Hn,Rn⟩
        · have aX:E / 64 - (1+1) < gk:=(by omega);obtain rfl:E=128:=(by omega);clear hk;go_wp2_with fail;refine(ay.o).mono ?_;rintro e w' ⟨rfl,hr,ho⟩;have Hn:=zh (hI.next aI hr ho);have Rn:=zh (ho.row (Ne.symm au) hR.o);clear hr ho;go_wp2_with fail;go_roundg(128 / 64 - (1+1));case measure=>exact aX
          case rel=>
           go_light;exact⟨1+1,64,0,by omega,rfl,fun h=>absurd h (by decide),Hn,Rn⟩
      · have bF:E - 64*k=0:=(by omega);have bG:k=E / 64:=(by omega);rw[bF];have hfin:Hid (xM m w bd bs (i+E / 64) wr):=(by rw[←bG];exact hI);clear bD bF bG hI hR hk ak;have aG:=zh (Oe m i r E aJ.o az HE.o);obtain⟨S,hS⟩:=zg (Sha.jk (rE m) Sha.init (i+E / 64));rw[hS]at aG;have hs:=hfin.1;rw[hS]at hs;have v0:=hs.cell (show 0 < 8 by decide);have v1:=hs.cell (show 1 < 8 by decide);have v2:=hs.cell (show 2 < 8 by decide);have v3:=hs.cell (show 3 < 8 by decide);have v4:=hs.cell (show 4 < 8 by decide);have v5:=hs.cell (show 5 < 8 by decide);have v6:=hs.cell (show 6 < 8 by decide);have v7:=hs.cell (show 7 < 8 by decide);simp only[Sha.St.o]at v0 v1 v2 v3 v4 v5 v6 v7;have J0:Hid (ag wr bd 35 32 (mX S 0)∧Below bd w wr):=zh ⟨hfin.2.1,hfin.2.2⟩;clear hS hs hfin;go_wp2_with fail;clear v0 v1 v2 v3 v4 v5 v6 v7
        go_loopg [7,8,54] 8 (fun g s7 s8 bU wx=>∃k:Nat,k+g=8∧bU=.int .i64 (k:Int)∧Hid (ag wx bd 35 32 (mX S k)∧Below bd w wx));case atStart=>exact⟨0,by omega,rfl,J0⟩
        case round=>
         clear J0;obtain⟨k,hk,rfl,hJ⟩:=hrel;by_cases aY:k < 8
         · have d0:decide ((k:Int) < 8)=true:=zt (by omega);have z1:=Ye k;have z2:(k:Int) < 8:=(by omega);have z3:(4*(k:Int)).toNat=4*k:=(by omega);have z4:(4*(k:Int)+4).toNat=4*k+4:=(by omega);have z5:4*k+4 - 4*k=4:=(by omega);have z6:(0:Int)≤4*(k:Int):=(by omega);have z7:4*(k:Int)≤4*(k:Int)+4:=(by omega);have z8:4*(k:Int)+4≤32:=(by omega);have bZ:=index8 S k aY;have hp:=put_any bd (4*k) 4 (32 - 4*k) 32 35 (S.o k).toNat _ wr hJ.1 (by omega) (by omega) (by omega) (by have :=(S.o k).isLt;omega);have aZ:=zh (EI S aY);have hu:=U_lt (S.o k);rw[show(((S.o k).toNat:Nat):Int)=U (S.o k)from rfl]at hp;have u1:=hu.1;have u2:=hu.2;have Hp:=zh hp;clear hp hu;go_wp2_with fail;refine(Hp.o).mono ?_;rintro e w' ⟨rfl,hr,ho⟩;have Hn:Hid (ag w' bd 35 32 (mX S (k+1))∧Below bd w w'):=zh ⟨hr.congr aZ.o,hJ.2.trans (ho.below (Ya _) (Yv hJ.1.lt))⟩;clear hr ho;go_wp2_with fail;go_roundg(gk - 1);case measure=>omega
           case rel=>
                 go_light;exact⟨k+1,by omega,by go_num,Hn⟩
         · have d0:decide ((k:Int) < 8)=false:=zT (by omega);obtain rfl:k=8:=(by omega);have R8:Hid (ag wr bd 35 32 (fun j=>vB ((Sha.sum m).getD j 0))):=zh (hJ.1.congr fun j hj=>by rw[Jp S j hj,←aG.o]);have B8:=zh hJ.2;clear hJ hk aY
           go_wp2_with(first
                 | (refine zL R8 rfl YQ ?_)
                 | (refine zV R8 rfl _ rfl YQ (fun _ _=>rfl) ?_;intro w9 R9 O9))
           refine bodyPost_ret (v:=Gf (Sha.sum m)) (zB R9 rfl rfl YQ) rfl ⟨rfl,?_⟩;go_light;rw[aH.o];exact B8.trans (O9.below (Ya _) (Yv R8.lt))
end Go.Proofs.YtfddbnmfllgifaaGreatDoor
