/- Part of TopMembers. -/
import Derived.Test.YtfddbnmfllgifaaGreatDoorA35
import Derived.Test.YtfddbnmfllgifaaGreatDoorA20
set_option linter.unusedVariables false
set_option linter.unusedSimpArgs false
set_option maxHeartbeats 64000000
set_option maxRecDepth 100000
namespace Go.Proofs.YtfddbnmfllgifaaGreatDoor
open Go.RowKit Cod
def fmD(t:Tv):Int:=((if cu t then cO t else 0:Nat):Int)
theorem yS(s:ByteArray):s.toList.isEmpty=s.data.toList.isEmpty:=by
 cases h:s.data.toList with
 | nil=>simp[ByteArray.toList_eq,h]
 | cons a b=>simp[ByteArray.toList_eq,h]
theorem form_1(n:Int)(s:ByteArray)(l:List Tv):cu (.mk 1 n s l)=(s.data.toList.isEmpty&&l.isEmpty):=by simp[cu]
theorem form_2(n:Int)(s:ByteArray)(l:List Tv):cu (.mk 2 n s l)=(decide (n=0)&&l.isEmpty):=by simp[cu]
theorem RU(n:Int)(s:ByteArray)(l:List Tv):cu (.mk 3 n s l)=(decide (n=0)&&s.data.toList.isEmpty&&fJ l):=by simp[cu]
theorem KQ{k:Int}(n:Int)(s:ByteArray)(l:List Tv)(h1:k≠1)(h2:k≠2)(h3:k≠3):cu (.mk k n s l)=false:=by simp[cu,h1,h2,h3]
theorem Bz(n:Int)(s:ByteArray)(l:List Tv):cO (.mk 3 n s l)=dC l+1:=by simp[cO]
theorem Ve{k:Int}(n:Int)(s:ByteArray)(l:List Tv)(h3:k≠3):cO (.mk k n s l)=0:=by simp[cO,h3]
theorem Jo{k:Int}(n:Int)(s:ByteArray)(l:List Tv)(h3:k≠3):fmD (.mk k n s l)=0:=by unfold fmD;rw[Ve n s l h3];split<;>rfl
theorem row4(g:Nat→Value):ah 4 g= #[g 0,g 1,g 2,g 3]:=rfl
theorem rX{l:List Tv}{i d:Nat}(hi:i < l.length)(h:dC l≤d):cO (l.getD i tv0)≤d:=by
 have h1:l=l.take (i+1)++l.drop (i+1):=(List.take_append_drop _ _).symm;rw[h1,jo,sJ l hi]at h;omega
theorem Jc:∀(d:Nat),d≤1000→∀(t:Tv) (v:Value) (w:World),cO t≤d→dF w v t→
 Calls Tryz.prog 161 #[v] w (zr (.tuple #[.int .i64 (fmD t),.bool (cu t)]) w):=by
 intro d
 induction d using Nat.strongRecOn with
 | ind d ih=>
 intro hd t v w ht hv;obtain⟨k,n,s,l⟩:=t;obtain⟨a,cap,c,rfl,hk,hn,hs,hl,hc⟩:=hv.open;obtain⟨m,hm⟩:=zg l.length
 obtain⟨U,aC,au,ax,ay⟩:∃U:Nat→Bool,U 0=false∧U 1=(s.toList.isEmpty&&((m:Int)==0))∧U 2=((n==0)&&((m:Int)==0))∧U 3=((n==0)&&s.toList.isEmpty):=
  ⟨fun i=>match i with | 0=>false | 1=>s.toList.isEmpty&&((m:Int)==0) | 2=>(n==0)&&((m:Int)==0) | _=>(n==0)&&s.toList.isEmpty,rfl,rfl,rfl,rfl⟩
 have em:((m:Int)==0)=l.isEmpty:=by
  rw[←hm];cases l<;>simp;omega
 have e1:cu (.mk 1 n s l)=U 1:=(by rw[form_1,au,em,yS]);have e2:cu (.mk 2 n s l)=U 2:=(by rw[form_2,ax,em];rfl);have e3:cu (.mk 3 n s l)=(U 3&&fJ l):=(by rw[RU,ay,yS];rfl);rw[hm]at hl hc ⊢;have IH:=zh ih;have HD:=zh hd;have HL:=zh hl;have HC:=zh hc;have HM:=zh hm;have HT:=zh ht;have E1:=zh e1;have E2:=zh e2;have E3:=zh e3;obtain⟨bs,ai⟩:=zg s.toList.isEmpty;obtain⟨bm,aj⟩:=zg (((m:Int)==0));obtain⟨bn,ak⟩:=zg ((n==0));rw[ai,aj]at au;rw[ak,aj]at ax;rw[ak,ai]at ay;have HU:=zh (And.intro aC (And.intro au (And.intro ax ay)));have HS:=zh ai;have HN:=zh ak;have HB:=zh aj;clear ih hd hl hc hv aC au ax ay hm ht e1 e2 e3 em ai aj ak;go_in;have B0:=zh (Yb w.heap.size w);go_upto_region 1 with fail;obtain⟨w1,aF,b1,z1,V1⟩:=zQ w (.cells #[.int .i64 k,.int .i64 n,.string s,.slice a m cap] 107) 107 4 (bu k n s (.slice a m cap)) rfl;rw[aF];(try rw[z1]);have B1:=zD B0 b1;clear b1 aF z1 B0
 go_cut [4] (fun s4 wx=>∃b,s4=.pointer (some ⟨b,0,none⟩)∧ag wx b 318 4 (fun i=>.bool (U i))∧Below w1.heap.size w1 wx)
 case first =>
  have x0:_=some (Value.int .i64 k):=V1.cell (i:=0) (by decide);have x1:_=some (Value.int .i64 n):=V1.cell (i:=1) (by decide);have x2:_=some (Value.string s):=V1.cell (i:=2) (by decide);have x3:_=some (Value.slice a m cap):=V1.cell (i:=3) (by decide);have R:=ag.new w1 318 4 (fun i=>.bool (U i));have RB:=zh ((Yb _ w1).alloc (Ya _) (.cells (ah 4 (fun i=>.bool (U i))) 318));obtain⟨u0,u1,u2,u3⟩:=HU.o;rw[row4,u0,u1,u2,u3]at R;rw[row4,u0,u1,u2,u3]at RB;have RR:=zh R;have ai:=HS.o;have ak:=HN.o;have aj:=HB.o;clear u0 u1 u2 u3 R HU HS HN HB;cases bs<;>cases bm<;>cases bn<;>(go_wp2_with fail;go_meet;exact⟨_,rfl,RR.o,RB.o⟩)
 case rest=>
  rename World=>w2
  obtain⟨b,rfl,hR,hb⟩:=hcut;have R2:=zh hR;have B2:=zD B1 hb;have V2:=zh (V1.below hb);have ae:=zh ((HL.below B1.o).below hb);clear hR hb B1 V1 HU HS HN HB HL;have x0:_=some (Value.int .i64 k):=V2.cell (i:=0) (by decide);by_cases k1:k=1
  · have y1:w2.cell? ⟨b,1,none⟩=some (.bool (U 1)):=R2.cell (i:=1) (by decide);obtain⟨u,hu⟩:=zg (U 1);rw[hu]at y1;have F:Hid (Ending.returned (.tuple #[.int .i64 0,.bool u])=Ending.returned (.tuple #[.int .i64 (fmD (.mk k n s l)),.bool (cu (.mk k n s l))])):=zh (by rw[k1,Jo _ _ _ (by decide),E1.o,hu]);subst k1;clear hu E1 E2 E3 HC HM HT IH HD V2 R2 ae;cases u<;>(go_wp2_with fail;go_ret2;exact⟨F.o,B2.o⟩)
  by_cases k2:k=2
  · have y1:w2.cell? ⟨b,2,none⟩=some (.bool (U 2)):=R2.cell (i:=2) (by decide);obtain⟨u,hu⟩:=zg (U 2);rw[hu]at y1;have F:Hid (Ending.returned (.tuple #[.int .i64 0,.bool u])=Ending.returned (.tuple #[.int .i64 (fmD (.mk k n s l)),.bool (cu (.mk k n s l))])):=zh (by rw[k2,Jo _ _ _ (by decide),E2.o,hu]);subst k2;clear hu E1 E2 E3 HC HM HT IH HD V2 R2 ae k1;cases u<;>(go_wp2_with fail;go_ret2;exact⟨F.o,B2.o⟩)
  by_cases k3:k=3
  · subst k3;have y1:w2.cell? ⟨b,3,none⟩=some (.bool (U 3)):=R2.cell (i:=3) (by decide);obtain⟨u,hu⟩:=zg (U 3);rw[hu]at y1;have F3:Hid (cu (.mk 3 n s l)=(u&&fJ l)):=zh (by rw[E3.o,hu]);have az:Hid (dC l+1≤d):=zh (by have :=HT.o;rwa[Bz]at this);have G3:Hid (cO (.mk 3 n s l)=dC l+1):=zh (by rw[Bz]);clear hu E1 E2 E3 HT k1 k2;cases u
    · have F:Hid (Ending.returned (.tuple #[.int .i64 0,.bool false])=Ending.returned (.tuple #[.int .i64 (fmD (.mk 3 n s l)),.bool (cu (.mk 3 n s l))])):=zh (by rw[fmD,F3.o];rfl);clear HC HM IH HD V2 R2 ae;go_wp2_with fail;go_ret2;exact⟨F.o,B2.o⟩
    · have CH:Hid (∀i,i < m→∀W,dF W (.agg (ah 4 (c i))) (l.getD i tv0)→Calls Tryz.prog 161 #[.agg (ah 4 (c i))] W (zr (.tuple #[.int .i64 (fmD (l.getD i tv0)),.bool (cu (l.getD i tv0))]) W)):=zh (fun i hi W h=>
       IH.o (d - 1) (by have :=az.o;omega) (by have :=HD.o;omega) (l.getD i tv0) _ W (rX (by rw[HM.o];exact hi) (by have :=az.o;omega)) h)
      have DB:Hid (∀i,(dC (l.take i):Int)≤1000):=zh (fun i=>by
       have h1:dC l=max (dC (l.take i)) (dC (l.drop i)):=by rw[←jo,List.take_append_drop]
       have :=az.o;have :=HD.o;omega)
      have x3:_=some (Value.slice a m cap):=V2.cell (i:=3) (by decide);have D0:Hid (dC (l.take 0)=0):=zh (by simp[dC]);have L0:Hid (fJ (l.take 0)=true):=zh (by simp[fJ]);have zm:=ae.lQ;go_upto_region 7 with fail;clear x0 x3 y1 IH HD;go_loopg [2,57] m (fun g s2 aK wx=>∃i:Nat,i+g=m∧aK=.int .i64 (i:Int)∧s2=.int .i64 ((dC (l.take i):Nat):Int)∧Hid (fJ (l.take i)=true)∧Hid (Below w2.heap.size w2 wx));case atStart=>exact⟨0,by omega,rfl,by rw[D0.o];rfl,L0,zh (Yb _ _)⟩
      case round=>
       obtain⟨i,hi,rfl,rfl,hF,hB⟩:=hrel;obtain⟨w3,rfl⟩:=zG wr;by_cases af:i < m
       · obtain⟨b2,off,rfl,aN,aO,hcell⟩:=(ae.below hB.o).aI af;have HE:=zh (hcell i af);have CE:=zh (HC.o i af);have CA:=zh (CH.o i af);have OC:=zh CE.cells;have ST:=zh (wY l (k:=i) (by rw[HM.o];exact af));have DT:=zh (sJ l (k:=i) (by rw[HM.o];exact af));have NO:=zh (fun h=>FY (l:=l) (k:=i) (by rw[HM.o];exact af) h);obtain⟨ti,aG⟩:=zg (l.getD i tv0);rw[aG]at CE CA ST DT NO;obtain⟨fb,aA⟩:=zg (cu ti);obtain⟨fd,aB⟩:=zg (fmD ti);have FD:Hid (fb=true→fd=((cO ti:Nat):Int)):=zh (fun h=>by rw[←aB,fmD,aA,h];rfl);rw[aA]at CA ST NO;rw[aB]at CA;have d0:decide ((i:Int) < (m:Int))=true:=zt (by omega);have z1:=Ye i;have z2:(i:Int) < (m:Int):=(by omega);have p0:0≤(i:Int)∧(i:Int) < (m:Int):=(by omega);have z3:((i:Int)).toNat=i:=Int.toNat_natCast i;have ZR:=zh (ag.new w3 107 4 eF);have BC:=zD B2 hB.o;clear hcell aG aA aB aO af
         go_upto_region 9 with(first | ((with_reducible (show wpList _ _ _ (Oper.mk (some 60) _ _ _ _ _::_) _ _));refine zE b2 _ rfl YS off i (by omega) (c i) HE.o ?_) | ((with_reducible refine zN ?_);refine zV ZR rfl (c i) rfl YS OC.o ?_;intro w4 V4 o4));have b4:Below w3.heap.size w3 w4:=zO o4;have B4:=zD BC b4;have K4:=zD hB b4;clear b4 o4 hB BC HE ZR OC;go_wp2_with((with_reducible (show wpList _ _ _ (Oper.mk (some 62) _ _ _ _ _::_) _ _));refine zL V4 rfl YS ?_);refine(CA.o _ (CE.later B4.o)).mono ?_;rintro e w5 ⟨rfl,b5⟩;have B5:=zD B4 b5;have K5:=zD K4 b5;clear b5 B4 K4 V4 CE CA;cases fb
         · have F:Hid (Ending.returned (.tuple #[.int .i64 0,.bool false])=Ending.returned (.tuple #[.int .i64 (fmD (.mk 3 n s l)),.bool (cu (.mk 3 n s l))])):=zh (by rw[fmD,F3.o,NO.o rfl];rfl);clear CH HC ST DT NO FD;go_wp2_with fail;go_ret2;exact⟨F.o,B5.o⟩
         · obtain rfl:=FD.o rfl;have D1:=zh (DB.o (i+1));have L1:Hid (fJ (l.take (i+1))=true):=zh (by rw[ST.o,hF.o];rfl);rw[DT.o]at D1;clear ST FD NO;go_wp2_with fail;go_roundg(gk - 1);case measure=>omega
           case rel=>
            go_light;exact⟨i+1,by omega,by go_num,by rw[DT.o];congr 1;omega,L1,K5⟩
       · obtain rfl:i=m:=(by omega);have d0:decide ((i:Int) < (i:Int))=false:=zT (by omega);have e1:l.take i=l:=Yq (by rw[HM.o];exact Ya _);have D1:=DB.o i;rw[e1]at hF D1 ⊢;have F:Hid (Ending.returned (.tuple #[.int .i64 (((dC l:Nat):Int)+1),.bool true])=Ending.returned (.tuple #[.int .i64 (fmD (.mk 3 n s l)),.bool (cu (.mk 3 n s l))])):=zh (by rw[fmD,F3.o,hF.o,G3.o];rfl);have BF:=zD B2 hB.o;obtain⟨dl,aH⟩:=zg (dC l);rw[aH]at F D1 ⊢;have z0:=Ye dl;clear aH e1 hF hB CH HC DB ae HM az G3;go_wp2_with fail;go_ret2;exact⟨F.o,BF.o⟩
  · have F:Hid (Ending.returned (.tuple #[.int .i64 0,.bool false])=Ending.returned (.tuple #[.int .i64 (fmD (.mk k n s l)),.bool (cu (.mk k n s l))])):=zh (by rw[Jo _ _ _ k3,KQ n s l k1 k2 k3]);by_cases aJ:k < 1
    · have d0:decide (k < 1)=true:=(by rw[decide_eq_true_iff];exact aJ);clear k1 k2 k3 E1 E2 E3 HC HM HT IH HD V2 R2 ae;go_wp2_with fail;go_ret2;exact⟨F.o,B2.o⟩
    · have d0:decide (k < 1)=false:=(by rw[decide_eq_false_iff_not];exact aJ);have d1:decide (3 < k)=true:=zt (by omega);clear k1 k2 k3 E1 E2 E3 HC HM HT IH HD V2 R2 ae;go_wp2_with fail;go_ret2;exact⟨F.o,B2.o⟩
end Go.Proofs.YtfddbnmfllgifaaGreatDoor
namespace Go.Proofs.YtfddbnmfllgifaaGreatDoor
open Go.RowKit
def jv(m:Nat)(l:List UInt8):Nat:=l.foldl (fun n b=>(n*256+b.toNat) % m) 0
theorem vz(m:Nat)(l:List UInt8)(b:UInt8):jv m (l++[b])=(jv m l*256+b.toNat) % m:=by simp[jv]
theorem Du{m:Nat}(hm:0 < m):∀l:List UInt8,jv m l < m:=by
 intro l;rcases List.eq_nil_or_concat l with rfl | ⟨l',b,rfl⟩
 · exact hm
 · rw[List.concat_eq_append,vz];exact Nat.mod_lt _ hm
theorem shl_or(n:Nat)(b:UInt8):bits .or .u64 (IntKind.u64.wrap ((n:Int)*256)) ((b.toNat:Nat):Int)=(((n*256 % 18446744073709551616+b.toNat:Nat)):Int):=by
 have hb:=b.toNat_lt;have hw:IntKind.u64.wrap ((n:Int)*256)=((n*256 % 18446744073709551616:Nat):Int):=(by rw[IntKind.wrap_u64];omega);rw[hw,bits_or_u64_nat _ _ (by omega) (by omega)];congr 1;obtain⟨q,hq⟩:∃q,n*256 % 18446744073709551616=q*256:=⟨n*256 % 18446744073709551616 / 256,by omega⟩;rw[hq];have :=Nat.shiftLeft_add_eq_or_of_lt (i:=8) (b:=b.toNat) (by omega) q;rw[Nat.shiftLeft_eq]at this;exact this.symm
theorem Pv(bn bm n m:Nat)(b:UInt8)(w:World)(hn:n < m)(hm:256≤m)(af:m < 18446744073709551616)(ai:bn≠bm)
 (c1:w.heap[bn]? =some (.cells #[.int .u64 (n:Int)] 188 (0,0))) (c2:w.heap[bm]? =some (.cells #[.int .u64 (m:Int)] 188 (0,0))):
 Calls Tryz.prog 264 #[.int .u8 ((b.toNat:Nat):Int),.pointer (some ⟨bn,0,none⟩),.pointer (some ⟨bm,0,none⟩)] w fun e w'=>e=.returned (.tuple #[])∧w'.heap[bn]? =some (.cells #[.int .u64 (((n*256+b.toNat) % m:Nat):Int)] 188 (0,0))∧aG bn w w':=by
 have h1:=cell_of_one c1;have h2:=free_of_one c1;have h3:=cell_of_one c2;have hb:=b.toNat_lt;have hd:=fun W=>y8 (n / 72057594037927936) (n*256 % 18446744073709551616+b.toNat) m (by omega) af (by omega) W;have e1:n / 72057594037927936*18446744073709551616+(n*256 % 18446744073709551616+b.toNat)=n*256+b.toNat:=(by omega);rw[e1]at hd;have so:=shl_or n b;obtain⟨lo,ag⟩:=zg (n*256 % 18446744073709551616+b.toNat);obtain⟨hi,ah⟩:=zg (n / 72057594037927936);obtain⟨q,hq⟩:=zg ((n*256+b.toNat) / m);obtain⟨r,hr⟩:=zg ((n*256+b.toNat) % m);rw[ag]at hd so;rw[ah,hq,hr]at hd;rw[hr];have hs:(n:Int) / 72057594037927936=(hi:Int):=(by omega);have Hd:=zh hd;have C1:=zh c1;clear hd ag ah hq hr e1 c1 c2 hn hm af hb;obtain⟨c,hc⟩:=zg (((b.toNat:Nat):Int));rw[hc]at so ⊢;have aj:0≤c∧c < 256:=(by have :=b.toNat_lt;omega);clear hc;go_in;go_wp2_with fail;refine(Hd.o _).mono ?_;rintro e w1 ⟨rfl,ae⟩
 have c4:w1.heap[bn]? =some (.cells #[.int .u64 (n:Int)] 188 (0,0)):=(ae.block _ (Yi.1 C1.o).1).trans C1.o;have h4:=cell_of_one c4;have h5:=free_of_one c4;have C4:=zh c4;have O1:=zh (aG.of_below (B:=bn) ae);clear h1 h2 h3 ae c4;go_wp2_with fail;go_end0;exact⟨rfl,one_setCell C4.o,O1.setCell (.inl rfl) _⟩
def RJ(l:List UInt8)(m:Nat)(w:World)(b0 k:Nat)(wx:World):Prop:=
 wx.heap[b0+1]? =some (.cells #[.int .u64 (m:Int)] 188 (0,0))∧wx.heap[b0+1+1]? =some (.cells #[.int .u64 ((jv m (l.take k):Nat):Int)] 188 (0,0))∧Below b0 w wx
theorem Js(N:Nat)(T e:TypeId)(g:Nat→Value)(k:Nat)(hu:Tryz.prog.underlying T=some (.array N e))(hs:(Tryz.prog.info? e).map (·.size)=some 1)(hk:k < N)(ha:∀W,(isAgg e).run Tryz.prog W=.ok false W)(W:World):
 (Instr.index T (.agg (ah N g)) (.int .i64 (k:Int))).run Tryz.prog W=.ok (g k) W:=by
 have h0:0≤(k:Int)∧(k:Int) < (N:Int):=by omega
 cases hq:Tryz.prog.info? e with
 | none=>simp[hq]at hs
 | some i=>
   have ae:i.size=1:=(by simpa[hq]using hs);simp[Instr.index,asIntOf,run_underlying hu,h0,sizeOf,typeInfo,hq,ae,part,fO hk,hk,ha]
theorem uT(l:List UInt8){k:Nat}(h:k < l.length):l.take (k+1)=l.take k++[l.getD k 0]:=by
 rw[List.take_succ_eq_append_getElem h,Yd,Yh h];rfl
theorem Rj(l:List UInt8)(m:Nat)(w:World)(hl:l.length=32)(hm:256≤m)(ak:m < 18446744073709551616):
 Calls Tryz.prog 239 #[Gf l,.int .u64 (m:Int)] w (zr (.int .u64 ((jv m l:Nat):Int)) w):=by
 unfold Gf;have Hl:=zh hl;have Hm:=zh hm;have aB:=zh ak;have af:=fun k hk W=>Js 32 35 5 (fun i=>vB (l.getD i 0)) k Tryz.underlying35 (by kernel_rfl) hk (fun _=>by kernel_rfl) W;have au:∀i,(fun i=>vB (l.getD i 0)) i=vB (l.getD i 0):=fun _=>rfl;obtain⟨g,hg⟩:∃g:Nat→Value,(fun i=>vB (l.getD i 0))=g:=⟨_,rfl⟩;rw[hg]at af au ⊢;have aC:=zh af;have R0:=ag.new w 35 32 g;have R1:=(R0.alloc (.cells #[.int .u64 (m:Int)] 188)).alloc (.cells #[.int .u64 0] 188);have B1:=(((Yb w.heap.size w).alloc (Ya _) (.cells (ah 32 g) 35)).alloc (by rw[Xi];omega) (.cells #[.int .u64 (m:Int)] 188)).alloc (by rw[Xi,Xi];omega) (.cells #[.int .u64 0] 188)
 have C1:(((w.alloc (.cells (ah 32 g) 35)).alloc (.cells #[.int .u64 (m:Int)] 188)).alloc (.cells #[.int .u64 0] 188)).heap[w.heap.size+1]? =some (.cells #[.int .u64 (m:Int)] 188 (0,0)):=by
  show(((w.heap.push _).push _).push _)[_]? =_;simp[Array.getElem?_push,Array.getElem_push]
 have C2:(((w.alloc (.cells (ah 32 g) 35)).alloc (.cells #[.int .u64 (m:Int)] 188)).alloc (.cells #[.int .u64 0] 188)).heap[w.heap.size+1+1]? =some (.cells #[.int .u64 ((jv m (l.take 0):Nat):Int)] 188 (0,0)):=by
  show(((w.heap.push _).push _).push _)[_]? =_;simp[Array.getElem?_push,Array.getElem_push,jv]
 have I0:Hid (RJ l m w w.heap.size 0 _):=zh ⟨C1,C2,B1⟩;have ax:=zh R1;clear hl hm ak af au hg R0 R1 B1 C1 C2;go_in;go_wp2_with((with_reducible (show wpList _ _ _ (Oper.mk (some 9) _ _ _ _ _::_) _ _));refine zL ax rfl YQ ?_);obtain⟨w3,ay⟩:=zg (((w.alloc (.cells (ah 32 g) 35)).alloc (.cells #[.int .u64 (m:Int)] 188)).alloc (.cells #[.int .u64 0] 188));rw[ay]at I0 ⊢;clear ay ax;obtain⟨b0,ai⟩:=zg w.heap.size;have aF:=zh ai;rw[ai]at I0 ⊢;clear ai;go_loopg [7,10] 32 (fun q s7 aG wx=>∃k:Nat,k+q=32∧aG=.int .i64 (k:Int)∧Hid (RJ l m w b0 k wx));case atStart=>exact⟨0,by omega,rfl,I0⟩
 case round=>
  clear I0;obtain⟨k,hk,rfl,hI⟩:=hrel;by_cases ae:k < 32
  · have d0:decide ((k:Int) < 32)=true:=zt (by omega);have z1:=Ye k;have z2:(k:Int) < 32:=(by omega);have ix:=aC.o k ae;have aj:=fun W=>Pv (b0+1+1) (b0+1) (jv m (l.take k)) m (l.getD k 0) W (Du (by have :=Hm.o;omega) _) Hm.o aB.o (by omega);have az:(jv m (l.take k)*256+(l.getD k 0).toNat) % m=jv m (l.take (k+1)):=(by rw[uT l (by rw[Hl.o];exact ae),vz]);rw[az]at aj;have aA:=zh (aj wr hI.2.1 hI.1);clear aj az;obtain⟨x,hx⟩:=zg (l.getD k 0);rw[hx]at ix aA;clear hx;go_wp2_with fail;refine(aA.o).mono ?_;rintro e w4 ⟨rfl,hc,ho⟩;have hn:Hid (RJ l m w b0 (k+1) w4):=zh ⟨(ho.block _ (Yi.1 hI.1).1 (by omega)).trans hI.1,hc,hI.2.2.trans (ho.below (by omega) (Yc (by omega) (Yv (Yi.1 hI.1).1)))⟩;clear hc ho;go_wp2_with fail;go_roundg(gk - 1);case measure=>omega
    case rel=>
     go_light;exact⟨k+1,by omega,by go_num,hn⟩
  · have d0:decide ((k:Int) < 32)=false:=zT (by omega);obtain rfl:k=32:=(by omega);have hfin:jv m (l.take 32)=jv m l:=(by rw[Yq (by rw[Hl.o];exact Ya _)]);have h2:=hI.2.1;rw[hfin]at h2;have c1:=cell_of_one h2;have f1:=free_of_one h2;have H2:=zh h2;have HB:=zh hI.2.2;obtain⟨r,hr⟩:=zg (jv m l);rw[hr]at c1 H2;have Hr:=zh hr;have c5:=World.cell?_setCell_same' wr ⟨b0+1+1,0,none⟩ (.int .u64 (r:Int)) (by rw[c1];rfl);have hB:Below b0 w (wr.setCell ⟨b0+1+1,0,none⟩ (.int .u64 (r:Int))):=HB.setCell (p:=⟨b0+1+1,0,none⟩) (show b0≤b0+1+1 by omega) _;have aH:=zh hB;clear hfin h2 hr hI hk ae hB;go_wp2_with fail;exact bodyPost_ret (v:=.int .u64 (r:Int)) (by simp[results,Tryz.f239,go_sem,c5]) rfl ⟨by rw[Hr.o],by rw[aF.o];exact aH.o⟩
def BI(t m:List UInt8):Nat:=1+jv 2305843009213688668 (Sha.tagged t m)
theorem pJ(t m:List UInt8):(Sha.tagged t m).length=32:=Sha.uF _
section
variable (s:ByteArray)(v:Value)(m:List UInt8)(w:World)(hs:s.size≤1000000)(hm:m.length≤1000000)(hv:BytesAt w v m)
include hs hm hv
theorem GH(hT:Tab w):
 Calls Tryz.prog 201 #[.string s,v] w (zr (.int .i64 ((BI s.data.toList m:Nat):Int)) w):=by
 have ht:=zh (wV s v m w hs hm hv hT);have hr:=fun W=>Rj (Sha.tagged s.data.toList m) 2305843009213688668 W (pJ _ _) (by decide) (by decide);have ae:=Du (m:=2305843009213688668) (by decide) (Sha.tagged s.data.toList m);rw[show BI s.data.toList m=1+jv 2305843009213688668 (Sha.tagged s.data.toList m)from rfl];obtain⟨r,af⟩:=zg (jv 2305843009213688668 (Sha.tagged s.data.toList m));rw[af]at hr ae ⊢;have Hr:=zh hr;have z1:=Ye r;have e1:IntKind.i64.wrap (r:Int)=(r:Int):=(by rw[IntKind.wrap_i64];omega);have e2:IntKind.i64.wrap (1+(r:Int))=1+(r:Int):=(by rw[IntKind.wrap_i64];omega);clear hr af ae hs hm hv;go_in;go_wp2_with fail;refine(ht.o).mono ?_;rintro e w1 ⟨rfl,b1⟩;go_wp2_with fail;refine(Hr.o _).mono ?_;rintro e w2 ⟨rfl,b2⟩;have B2:=zh (b1.trans (b2.mono b1.size));clear b1 b2;go_wp2_with fail;go_ret;go_light;exact⟨by congr 2,B2.o⟩
end
section
variable (s:ByteArray)(v:Value)(m:List UInt8)(w:World)(hs:s.size≤1000000)(hm:m.length≤1000000)(hv:BytesAt w v m)
include hs hm hv
end
end Go.Proofs.YtfddbnmfllgifaaGreatDoor
