/- Part of TopMembers. -/
import Derived.Test.YtfddbnmfllgifaaGreatDoorA17
set_option linter.unusedVariables false
set_option linter.unusedSimpArgs false
set_option maxHeartbeats 64000000
set_option maxRecDepth 100000
namespace Go.Proofs.YtfddbnmfllgifaaGreatDoor
open Go.RowKit Cod
theorem or_128(x:Nat):bits .or .u8 ((x:Int) % 256) 128=(((UInt8.ofNat (x % 128+128)).toNat:Nat):Int):=by
 have h:∀a:Fin 256,bits .or .u8 (a.val:Int) 128=(((a.val % 128+128):Nat):Int):=(by decide+kernel);have h1:=h ⟨x % 256,Nat.mod_lt _ (by decide)⟩;have e1:((x % 256:Nat):Int)=(x:Int) % 256:=(by omega);simp only at h1;rw[←e1,h1];have e2:(UInt8.ofNat (x % 128+128)).toNat=x % 128+128:=(by simp;omega);rw[e2];omega
theorem mG(u:Nat)(hu:u < 18446744073709551616)(base:Nat)(v0:Value)(l0:List UInt8)(w:World)(h0:dw w base v0 l0)(hbase:base≤w.heap.size)(hlen:l0.length≤140737488350000):
 Calls Tryz.prog 163 #[v0,.int .u64 (u:Int)] w fun e w'=>∃v,e=.returned v∧dw w' base v (l0++iV u)∧ay w v0 w' v:=by
 have P0:Hid (dw w base v0 (l0++[])):=zh (by rw[List.append_nil];exact h0);have HB:=zh hbase;have HU:=zh hu;have HL:=zh hlen;have af:=zh (uw hu);clear h0 hbase hu hlen;go_in;go_wp2_with fail;go_loopg [0,1] u (fun g s0 s1 wx=>∃(x:Nat) (v:Value) (dn:List UInt8),x=g∧s1=.int .u64 (x:Int)∧s0=v∧Hid (dw wx base v (l0++dn))∧Hid (iV u=dn++iV x∧x < 18446744073709551616)∧Hid (ay w v0 wx v));case atStart=>exact⟨u,v0,[],rfl,rfl,rfl,P0,zh ⟨rfl,HU.o⟩,zh (ay.refl _ _)⟩
 case round=>
  clear P0;obtain⟨x,v,dn,rfl,rfl,e2,hO,hX,hB⟩:=hrel;obtain rfl:v=_:=e2.symm;by_cases hx:x < 128
  · have d0:decide ((128:Int)≤(x:Int))=false:=zT (by omega);have d1:decide (128≤x)=false:=zT (by omega);obtain⟨y,hy⟩:=zg (UInt8.ofNat x);obtain⟨yn,ae⟩:∃z:Int,(y.toNat:Int)=z:=⟨_,rfl⟩;have hv:(x:Int) % 256=yn:=(by rw[←ae,←hy];simp);have OB:=zh (one_byte wr y);unfold vB at OB;rw[ae]at OB;have EN:Hid (iV u=dn++[y]):=zh (by rw[hX.1,JZ hx,hy])
    have L4:=zh (show(l0++dn).length+[y].length≤140737488351232 from by
     have h1:=af.o;have h2:=HL.o;rw[EN.o,Yf]at h1
     rw[Yf];simp at h1 ⊢;omega)
    clear hx hX hy ae;go_wp2_with((with_reducible (show wpList _ _ _ (Oper.mk (some 19) _ _ _ _ _::_) _ _));refine fU rfl (.tmp 15) (.tmp 18) rfl base v (.slice (some ⟨wr.heap.size,0,none⟩) 1 1) _ _ rfl rfl (dw.alloc hO.o _) OB.o L4.o (by rw[Xi];have :=hB.1.size;have :=HB.o;omega) ?_;intro v3 w3 O3 B3);go_ret;exact⟨_,rfl,by have h:=O3.o;rw[Xa,←EN.o]at h;exact h,(hB.trans (ay.of_below _ ((Yb _ _).alloc (Ya _) _))).trans B3.o⟩
  · have d0:decide ((128:Int)≤(x:Int))=true:=zt (by omega);have d1:decide (128≤x)=true:=zt (by omega);obtain⟨y,hy⟩:=zg (UInt8.ofNat (x % 128+128));obtain⟨yn,ae⟩:∃z:Int,(y.toNat:Int)=z:=⟨_,rfl⟩;obtain⟨xb,ag⟩:∃z:Int,(x:Int) % 256=z:=⟨_,rfl⟩;obtain⟨xs,ah⟩:∃z:Int,(x:Int) / 128=z:=⟨_,rfl⟩;have ai:bits .or .u8 xb 128=yn:=(by rw[←ag,←ae,←hy];exact or_128 x);have XS:=zh (show xs=((x / 128:Nat):Int)by rw[←ah];omega);have EN:Hid (iV u=(dn++[y])++iV (x / 128)):=zh (by rw[hX.1,KT hx,hy,Xa];rfl)
    have L4:=zh (show(l0++dn).length+[y].length≤140737488351232 from by
     have h1:=af.o;have h2:=HL.o;rw[EN.o,Yf,Yf]at h1
     rw[Yf];simp at h1 ⊢;omega)
    have X2:=zh (show x / 128 < 18446744073709551616 by have :=hX.2;omega);have XL:=zh (show x / 128 < x by omega);have OB:=zh (one_byte wr y);unfold vB at OB;rw[ae]at OB;clear hx hX hy ae;go_wp2_with((with_reducible (show wpList _ _ _ (Oper.mk (some 14) _ _ _ _ _::_) _ _));refine fU rfl (.tmp 9) (.tmp 13) rfl base v (.slice (some ⟨wr.heap.size,0,none⟩) 1 1) _ _ rfl rfl (dw.alloc hO.o _) OB.o L4.o (by rw[Xi];have :=hB.1.size;have :=HB.o;omega) ?_;intro v3 w3 O3 B3);rw[XS.o];go_roundg(x / 128);case measure=>exact XL.o
    case rel=>
     go_light;exact⟨x / 128,v3,dn++[y],rfl,rfl,rfl,zh (by have h:=O3.o;rw[Xa]at h;exact h),zh ⟨EN.o,X2.o⟩,zh ((hB.trans (ay.of_below _ ((Yb _ _).alloc (Ya _) _))).trans B3.o)⟩
theorem VU{n:Int}(hn:bQ n):bits .xor .u64 (IntKind.u64.wrap (IntKind.u64.wrap n*2)) (IntKind.u64.wrap (n / 9223372036854775808))=((zig n:Nat):Int):=by
 obtain⟨h1,h2⟩:=hn;have hu:IntKind.u64.wrap n=n % 18446744073709551616:=IntKind.wrap_u64 n;rw[hu,IntKind.wrap_u64,IntKind.wrap_u64];by_cases h0:0≤n
 · have e1:n / 9223372036854775808=0:=(by omega);have e2:n % 18446744073709551616*2 % 18446744073709551616=((2*n.toNat:Nat):Int):=(by omega);rw[e1,e2];unfold zig;rw[if_pos h0];show IntKind.u64.wrap ((BitVec.ofInt 64 ((2*n.toNat:Nat):Int)^^^BitVec.ofInt 64 (0 % 18446744073709551616)).toNat:Nat)=_;rw[show BitVec.ofInt 64 (0 % 18446744073709551616)=0#64 from rfl,BitVec.xor_zero,BitVec.toNat_ofInt,IntKind.wrap_u64];omega
 · have e1:n / 9223372036854775808= -1:=(by omega);have e2:n % 18446744073709551616*2 % 18446744073709551616=2*n+18446744073709551616:=(by omega);rw[e1,e2];unfold zig;rw[if_neg h0];show IntKind.u64.wrap ((BitVec.ofInt 64 (2*n+18446744073709551616)^^^BitVec.ofInt 64 (-1 % 18446744073709551616)).toNat:Nat)=_;rw[show BitVec.ofInt 64 (-1 % 18446744073709551616)=BitVec.allOnes 64 from rfl,BitVec.xor_allOnes,BitVec.toNat_not,BitVec.toNat_ofInt,IntKind.wrap_u64];have :((2^64:Nat):Int)=18446744073709551616:=(by decide);rw[this];omega
theorem Dj(n:Int)(hn:bQ n)(w:World):
 Calls Tryz.prog 164 #[.int .i64 n] w fun e w'=>e=.returned (.int .u64 ((zig n:Nat):Int))∧w=w':=by
 have hx:=zh (VU hn);go_in;go_wp2;rw[hx.o];go_ret;exact⟨rfl,rfl⟩
def wrC(c:Nat):Nat→Value
 | 0=>.nilFunc
 | 1=>.func (.func 162) #[] #[]
 | 2=>.func (.func 165) #[] #[]
 | _=>.func (.func 166) #[] #[.pointer (some ⟨c,0,none⟩)]
def Vr(w:World)(b c:Nat):Prop:=ag w b 268 4 (wrC c)∧ag w c 214 1 (fun _=>.pointer (some ⟨b,0,none⟩))
theorem xI(w:World):
 Calls Tryz.prog 110 #[] w fun e w'=>(∃b c,e=.returned (.pointer (some ⟨b,0,none⟩))∧Vr w' b c)∧Below w.heap.size w w':=by
 have ae:=zM Tryz.prog;go_in;go_wp2_with fail;go_ret;refine⟨⟨_,w.heap.size+1,rfl,?_,?_⟩,?_⟩
 · have h:=(ag.new w 268 4 (wrC (w.heap.size+1))).alloc (.cells #[Value.pointer (some {block:=w.heap.size,off:=0})] 214);exact h
 · have h:=ag.new (w.alloc (.cells (ah 4 (wrC (w.heap.size+1))) 268)) 214 1 (fun _=>.pointer (some ⟨w.heap.size,0,none⟩));rw[Xi]at h;exact h
 · exact((Yb _ w).alloc (Ya _) _).alloc (by rw[Xi];omega) _
theorem enc_1(n:Int)(s:ByteArray)(l:List Tv):dW (.mk 1 n s l)=1::iV (zig n):=by unfold dW;rw[if_pos rfl]
theorem enc_2(n:Int)(s:ByteArray)(l:List Tv):dW (.mk 2 n s l)=2::(iV s.size++s.data.toList):=by unfold dW;rw[if_neg (by decide),if_pos rfl]
theorem enc_3(n:Int)(s:ByteArray)(l:List Tv):dW (.mk 3 n s l)=3::(iV l.length++fQ l):=by unfold dW;rw[if_neg (by decide),if_neg (by decide)]
theorem size_data(s:ByteArray):s.data.toList.length=s.size:=Array.length_toList
theorem Gj(n:Int)(s:ByteArray)(l:List Tv)(v:Value)(base:Nat)(v0:Value)(l0:List UInt8)(w:World)(hv:dF w v (.mk 1 n s l))(h0:dw w base v0 l0)(hbase:base≤w.heap.size)(hlen:l0.length+(dW (.mk 1 n s l)).length≤140737488340000):
 Calls Tryz.prog 162 #[v0,v] w fun e w'=>∃v',e=.returned v'∧dw w' base v' (l0++dW (.mk 1 n s l))∧ay w v0 w' v':=by
 obtain⟨a,cap,c,rfl,hk,hn,hs,hl,hc⟩:=hv.open;obtain⟨m,hm⟩:=zg l.length;rw[enc_1]at hlen ⊢;rw[hm];have HU:=zh (fun W=>Dj n hn W);have HZ:=zh (Qu hn.1 hn.2);have HL:=zh hlen;have HB:=zh hbase;have HO:=zh h0;obtain⟨u,hu⟩:=zg (zig n);rw[hu]at HU HZ HL ⊢;clear hl hc hv hm hlen hbase h0 hu;go_in;have B0:=zh (Yb w.heap.size w);go_upto_region 1 with fail;obtain⟨w1,ak,b1,z1,V1⟩:=zQ w (.cells #[.int .i64 1,.int .i64 n,.string s,.slice a m cap] 107) 107 4 (bu 1 n s (.slice a m cap)) rfl;rw[ak];(try rw[z1]);have B1:=zD B0 b1;clear b1 ak z1 B0;have SZ:=zh (V1.lt);have NE:=zh (show v0.ownBlock≠some w.heap.size from fun e=>by have :=(World.ownsRow.lt HO.o _ e).2;omega);have O1:=zh (HO.below B1.o);have A1:=zh (ay.of_below v0 B1.o);refine Tc.aA (Tc.Rl.stay (fun k=>k=w.heap.size)) 5 [] (.fl 0 (.fl 3 (.fl 4 (.one 1 (.one 2 .done))))) (by kernel_rfl) (by kernel_rfl) ?_;intro w2 b2 e2
 have V2:=zh (V1.below b2);have ag:=zh (show w.heap.size < w2.heap.size by rw[e2];exact SZ.o);have O2:=zh (O1.below b2);have A2:=zh (A1.trans (ay.of_below v0 b2));have ax:=zh (show base≤w2.heap.size by have :=HB.o;have :=ag.o;omega);clear b2 e2 B1 V1 O1 A1 SZ;refine Tc.aj [0,3,4] [_,_,_] rfl ?_;dsimp only[zx,zy,zz];(repeat(go_big_quiet_want;go_big_quiet_op;first | go_big_quiet_on | (refine⟨_,fun _ _=>rfl,?_⟩;go_big_quiet_on)));refine zC w.heap.size 1 rfl zC3 (.int .i64 n) (fun W hW=>(aJ (S:=fun k=>k=w.heap.size) V2.o rfl hW).cell (i:=1) (by decide)) ?_;simp only[Act.put,zu];refine wpQuiet_nil ?_;refine Tc.ae 1 rfl (fun K hK=>?_);go_wp2_with fail;have al:=(Yb _ w2).alloc (Ya _) (.cells #[vB 1] 5);refine hK _ _ (aC al (fun k hk=>by subst hk;exact ag.o)) ?_;have Y3:=zh (one_byte w2 1);have O3:=zh (O2.below al);have T3:=zh (ay.of_below v0 al);have A3:=zh (A2.trans (ay.of_below v0 al))
 have au:=zh (Yg ag.o al.size);have ah:=zh (Yc ax.o al.size);obtain⟨w3,ai⟩:=zg (w2.alloc (.cells #[vB 1] 5));have af:w2.alloc (.cells #[.int .u8 1] 5)=w3:=ai;rw[ai]at Y3 O3 A3 au ah T3;rw[af];clear hK K al ai af O2 A2;refine Tc.ae 2 rfl (fun K hK=>?_);refine fU rfl (.tmp 5) (.tmp 6) rfl base v0 (.slice (some ⟨w2.heap.size,0,none⟩) 1 1) _ _ rfl rfl O3.o Y3.o (by have :=HL.o;simp only[Yr,Yf,Xc]at this ⊢;omega) ah.o ?_;intro v4 w4 O4 s4;go_wp2_with fail;refine hK _ _ (bP s4.o (fun k hk=>by subst hk;exact⟨au.o,NE.o⟩)) ?_;have A4:=zh (A3.trans s4.o);have az:=zh (Yc ah.o s4.1.size);clear hK K s4 O3 A3 Y3 T3;refine Tc.aF (l:=_) rfl (fun K hK=>?_);go_wp2_with fail;refine(HU.o _).mono ?_;rintro e w' ⟨rfl,rfl⟩;go_wp2_with fail;refine(mG u HZ.o base v4 (l0++[1]) _ O4.o az.o (by have :=HL.o;rw[Yf];simp only[Yr,Yf,Xc]at this ⊢;omega)).mono ?_;rintro e w5 ⟨v5,rfl,o5,s5⟩;have O5:=zh o5
 have A5:=zh (A4.trans s5);clear o5 s5 O4 A4;go_wp2_with fail;go_ret;exact⟨v5,rfl,by have h:=O5.o;rw[Xa]at h;exact h,A5.o⟩
theorem Iz(n:Int)(s:ByteArray)(l:List Tv)(v:Value)(base:Nat)(v0:Value)(l0:List UInt8)(w:World)(hv:dF w v (.mk 2 n s l))(h0:dw w base v0 l0)(hbase:base≤w.heap.size)(hlen:l0.length+(dW (.mk 2 n s l)).length≤140737488340000):
 Calls Tryz.prog 165 #[v0,v] w fun e w'=>∃v',e=.returned v'∧dw w' base v' (l0++dW (.mk 2 n s l))∧ay w v0 w' v':=by
 obtain⟨a,cap,c,rfl,hk,hn,hs,hl,hc⟩:=hv.open;obtain⟨m,hm⟩:=zg l.length;rw[enc_2]at hlen ⊢;rw[hm];have HL:=zh hlen;have HB:=zh hbase;have HO:=zh h0;have HS:=zh (show s.size < 18446744073709551616 by omega);have w1:IntKind.u64.wrap (s.size:Int)=(s.size:Int):=(by rw[IntKind.wrap_u64];omega);clear hl hc hv hm hlen hbase h0;go_in;have B0:=zh (Yb w.heap.size w);go_upto_region 1 with fail;obtain⟨w1,ax,b1,z1,V1⟩:=zQ w (.cells #[.int .i64 2,.int .i64 n,.string s,.slice a m cap] 107) 107 4 (bu 2 n s (.slice a m cap)) rfl;rw[ax];(try rw[z1]);have B1:=zD B0 b1;clear b1 ax z1 B0;have SZ:=zh (V1.lt);have NE:=zh (show v0.ownBlock≠some w.heap.size from fun e=>by have :=(World.ownsRow.lt HO.o _ e).2;omega);have O1:=zh (HO.below B1.o);have A1:=zh (ay.of_below v0 B1.o)
 refine Tc.aA (Tc.Rl.stay (fun k=>k=w.heap.size)) 12 [] (.fl 0 (.fl 3 (.fl 4 (.fl 5 (.fl 6 (.fl 8 (.fl 9 (.one 1 (.one 2 (.one 7 (.one 10 (.one 11 .done)))))))))))) (by kernel_rfl) (by kernel_rfl) ?_;intro w2 b2 e2;have V2:=zh (V1.below b2);have ah:=zh (show w.heap.size < w2.heap.size by rw[e2];exact SZ.o);have O2:=zh (O1.below b2);have A2:=zh (A1.trans (ay.of_below v0 b2));have aG:=zh (show base≤w2.heap.size by have :=HB.o;have :=ah.o;omega);clear b2 e2 B1 V1 O1 A1 SZ;refine Tc.aj [0,3,4,5,6,8,9] [_,_,_,_,_,_,_] rfl ?_;dsimp only[zx,zy,zz];(repeat(go_big_quiet_want;go_big_quiet_op;first | go_big_quiet_on | (refine⟨_,fun _ _=>rfl,?_⟩;go_big_quiet_on)));refine zC w.heap.size 2 rfl zC9 (.string s) (fun W hW=>(aJ (S:=fun k=>k=w.heap.size) V2.o rfl hW).cell (i:=2) (by decide)) ?_;simp only[Act.put,zu]
 (repeat(go_big_quiet_want;go_big_quiet_op;first | go_big_quiet_on | (refine⟨_,fun _ _=>rfl,?_⟩;go_big_quiet_on)));refine zC w.heap.size 2 rfl zC9 (.string s) (fun W hW=>(aJ (S:=fun k=>k=w.heap.size) V2.o rfl hW).cell (i:=2) (by decide)) ?_;simp only[Act.put,zu];refine wpQuiet_nil ?_;refine Tc.ae 1 rfl (fun K hK=>?_);go_wp2_with fail;have al:=(Yb _ w2).alloc (Ya _) (.cells #[vB 2] 5);refine hK _ _ (aC al (fun k hk=>by subst hk;exact ah.o)) ?_;have Y3:=zh (one_byte w2 2);have O3:=zh (O2.below al);have T3:=zh (ay.of_below v0 al);have A3:=zh (A2.trans (ay.of_below v0 al));have ag:=zh (Yg ah.o al.size);have ai:=zh (Yc aG.o al.size);obtain⟨w3,ak⟩:=zg (w2.alloc (.cells #[vB 2] 5));have af:w2.alloc (.cells #[.int .u8 2] 5)=w3:=ak;rw[ak]at Y3 O3 A3 ag ai T3;rw[af];clear hK K al ak af O2 A2;refine Tc.ae 2 rfl (fun K hK=>?_)
 refine fU rfl (.tmp 5) (.tmp 6) rfl base v0 (.slice (some ⟨w2.heap.size,0,none⟩) 1 1) _ _ rfl rfl O3.o Y3.o (by have :=HL.o;simp only[Yr,Yf,Xc]at this ⊢;omega) ai.o ?_;intro v4 w4 O4 s4;go_wp2_with fail;refine hK _ _ (bP s4.o (fun k hk=>by subst hk;exact⟨ag.o,NE.o⟩)) ?_;have A4:=zh (A3.trans s4.o);have az:=zh (Yc ai.o s4.1.size);have au:=zh (Yg ag.o s4.1.size);have aB:=zh (s4.ne ag.o NE.o);clear hK K s4 O3 A3 Y3 T3;refine Tc.ae 7 rfl (fun K hK=>?_);go_wp2_with fail;refine(mG s.size HS.o base v4 (l0++[2]) _ O4.o az.o (by have :=HL.o;rw[Yf];simp only[Yr,Yf,Xc]at this ⊢;omega)).mono ?_;rintro e w5 ⟨v5,rfl,o5,s5⟩;have O5:=zh o5;have A5:=zh (A4.trans s5);have aH:=zh (Yc az.o s5.1.size);go_wp2_with fail;refine hK _ _ (bP s5 (fun k hk=>by subst hk;exact⟨au.o,aB.o⟩)) ?_;have aI:=zh (Yg au.o s5.1.size);have aK:=zh (s5.ne au.o aB.o);clear hK K o5 s5 O4 A4;refine Tc.ae 10 rfl (fun K hK=>?_)
 refine qK rfl (.tmp 12) (.tmp 14) rfl base v5 s _ rfl rfl O5.o (by have :=HL.o;have h2:=size_data s;simp only[Yr,Yf,Xc]at this ⊢;omega) aH.o ?_;intro v6 w6 O6 s6;go_wp2_with fail;refine hK _ _ (bP s6.o (fun k hk=>by subst hk;exact⟨aI.o,aK.o⟩)) ?_;have A6:=zh (A5.trans s6.o);clear hK K s6 O5 A5;refine Tc.ae 11 rfl (fun K hK=>?_);go_wp2_with fail;refine hK _ _ (Tc.Rl.refl _ _) ?_;clear hK K;refine Tc.aF (l:=[]) rfl (fun K hK=>?_);go_wp2_with fail;go_ret;exact⟨v6,rfl,by have h:=O6.o;rw[Xa,Xa]at h;exact h,A6.o⟩
def wrF(k:Int):FuncId:=if k=1 then 162 else if k=2 then 165 else 166
def wrCap(c:Nat)(k:Int):Array Value:=if k=3 then #[.pointer (some ⟨c,0,none⟩)]else #[]
def WrOk(W0:World)(b c:Nat)(v:Value)(t:Tv):Prop:=∀(base:Nat) (v0:Value) (l0:List UInt8) (w:World),W0.heap.size≤base→Below W0.heap.size W0 w→dw w base v0 l0→base≤w.heap.size→l0.length+(dW t).length≤140737488340000→
 Calls Tryz.prog (wrF t.k) (#[v0,v]++wrCap c t.k) w fun e w'=>∃v',e=.returned v'∧dw w' base v' (l0++dW t)∧ay w v0 w' v'
theorem qP{t:Tv}(h:cu t=true):t.k=1∨t.k=2∨t.k=3:=by
 obtain⟨k,n,s,l⟩:=t;show k=1∨k=2∨k=3;by_cases h1:k=1
 · exact .inl h1
 by_cases h2:k=2
 · exact .inr (.inl h2)
 by_cases h3:k=3
 · exact .inr (.inr h3)
 · rw[KQ n s l h1 h2 h3]at h;cases h
theorem dF.kind{w:World}{f:Nat→Value}{t:Tv}(h:dF w (.agg (ah 4 f)) t):f 0=.int .i64 t.k:=by
 obtain⟨k,n,s,l⟩:=t;obtain⟨a,cap,c,e,_⟩:=h.open;have e1:=Value.agg.inj e;have e2:(ah 4 f)[0]? =(#[.int .i64 k,.int .i64 n,.string s,.slice a l.length cap]:Array Value)[0]? :=(by rw[e1]);rw[fO (by decide)]at e2;exact Yx e2
theorem VR(l:List Tv){i:Nat}(h:i < l.length):(fQ (l.take i)).length+(dW (l.getD i tv0)).length≤(fQ l).length:=by
 have h1:fQ l=fQ (l.take (i+1))++fQ (l.drop (i+1)):=(by rw[←kF,List.take_append_drop]);have h2:=congrArg List.length h1;rw[yF l h,Yf,Yf]at h2;omega
theorem Hq(W0:World)(b c:Nat)(hw:Vr W0 b c)(n:Int)(s:ByteArray)(l:List Tv)(a:Option Addr)(m cap:Nat)(hm:l.length=m)(cc:Nat→Nat→Value)(hl:aN 4 W0 (.slice a m cap) m cc)
 (aS:∀i,i < m→dF W0 (.agg (ah 4 (cc i))) (l.getD i tv0)) (hf:∀i,i < m→cu (l.getD i tv0)=true) (aT:∀i,i < m→WrOk W0 b c (.agg (ah 4 (cc i))) (l.getD i tv0)):WrOk W0 b c (.agg #[.int .i64 3,.int .i64 n,.string s,.slice a m cap]) (.mk 3 n s l):=by
 intro base v0 l0 w aU hW h0 hbase hlen;rw[enc_3]at hlen ⊢;rw[hm]at hlen ⊢;show Calls Tryz.prog 166 #[v0,.agg #[.int .i64 3,.int .i64 n,.string s,.slice a m cap],.pointer (some ⟨c,0,none⟩)] w _;have HW:=zh hw;have HM:=zh hm;have aZ:=zh hl;have HC:=zh aS;have HF:=zh hf;have HK:=zh aT;have aH:=zh aU;have bf:=zh hW;have HL:=zh hlen;have HB:=zh hbase;have HO:=zh h0;have zm:=hl.lQ;have HS:=zh (show m < 18446744073709551616 by omega);have w1:IntKind.u64.wrap (m:Int)=(m:Int):=(by rw[IntKind.wrap_u64];omega);clear hw hm hl aS hf aT aU hW hlen hbase h0;go_in;have B0:=zh (Yb w.heap.size w);go_upto_region 1 with fail;obtain⟨w1,aV,b1,z1,V1⟩:=zQ w (.cells #[.int .i64 3,.int .i64 n,.string s,.slice a m cap] 107) 107 4 (bu 3 n s (.slice a m cap)) rfl;rw[aV];(try rw[z1]);have B1:=zD B0 b1;clear b1 aV z1 B0;have SZ:=zh (V1.lt)
 have NE:=zh (show v0.ownBlock≠some w.heap.size from fun e=>by have :=(World.ownsRow.lt HO.o _ e).2;omega);have O1:=zh (HO.below B1.o);have A1:=zh (ay.of_below v0 B1.o);go_cut [0] (fun s0 wx=>∃v,s0=v∧dw wx base v (l0++(3::iV m))∧ay w v0 wx v∧ag wx w.heap.size 107 4 (bu 3 n s (.slice a m cap))∧v.ownBlock≠some w.heap.size)
 case first =>
  refine Tc.aA (Tc.Rl.stay (fun k=>k=w.heap.size)) 7 [] (.fl 0 (.fl 3 (.fl 4 (.fl 5 (.fl 6 (.one 1 (.one 2 .done))))))) (by kernel_rfl) (by kernel_rfl) ?_;intro w2 b2 e2;have V2:=zh (V1.below b2);have aK:=zh (show w.heap.size < w2.heap.size by rw[e2];exact SZ.o);have O2:=zh (O1.below b2);have A2:=zh (A1.trans (ay.of_below v0 b2));have bg:=zh (show base≤w2.heap.size by have :=HB.o;have :=aK.o;omega);clear b2 e2 B1 V1 O1 A1 SZ;refine Tc.aj [0,3,4,5,6] [_,_,_,_,_] rfl ?_;dsimp only[zx,zy,zz];(repeat(go_big_quiet_want;go_big_quiet_op;first | go_big_quiet_on | (refine⟨_,fun _ _=>rfl,?_⟩;go_big_quiet_on)));refine zC w.heap.size 3 rfl Ze (.slice a m cap) (fun W hW=>(aJ (S:=fun k=>k=w.heap.size) V2.o rfl hW).cell (i:=3) (by decide)) ?_;simp only[Act.put,zu];(repeat(go_big_quiet_want;go_big_quiet_op;first | go_big_quiet_on | (refine⟨_,fun _ _=>rfl,?_⟩;go_big_quiet_on)));refine wpQuiet_nil ?_
  refine Tc.ae 1 rfl (fun K hK=>?_);go_wp2_with fail;have al:=(Yb _ w2).alloc (Ya _) (.cells #[vB 3] 5);refine hK _ _ (aC al (fun k hk=>by subst hk;exact aK.o)) ?_;have Y3:=zh (one_byte w2 3);have O3:=zh (O2.below al);have T3:=zh (ay.of_below v0 al);have A3:=zh (A2.trans (ay.of_below v0 al));have aW:=zh (Yg aK.o al.size);have aP:=zh (Yc bg.o al.size);obtain⟨w3,aQ⟩:=zg (w2.alloc (.cells #[vB 3] 5));have az:w2.alloc (.cells #[.int .u8 3] 5)=w3:=aQ;rw[aQ]at Y3 O3 A3 aW aP T3;rw[az];clear hK K al aQ az O2 A2;refine Tc.ae 2 rfl (fun K hK=>?_);refine fU rfl (.tmp 8) (.tmp 9) rfl base v0 (.slice (some ⟨w2.heap.size,0,none⟩) 1 1) _ _ rfl rfl O3.o Y3.o (by have :=HL.o;simp only[Yr,Yf,Xc]at this ⊢;omega) aP.o ?_;intro v4 w4 O4 s4;go_wp2_with fail;refine hK _ _ (bP s4.o (fun k hk=>by subst hk;exact⟨aW.o,NE.o⟩)) ?_;have A4:=zh (A3.trans s4.o);have T4:=zh (T3.trans s4.o)
  have bn:=zh (Yc aP.o s4.1.size);clear hK K s4 O3 A3 Y3 T3;refine Tc.aF (l:=_) rfl (fun K hK=>?_);go_wp2_with fail;refine(mG m HS.o base v4 (l0++[3]) _ O4.o bn.o (by have :=HL.o;rw[Yf];simp only[Yr,Yf,Xc]at this ⊢;omega)).mono ?_;rintro e w5 ⟨v5,rfl,o5,s5⟩;have O5:=zh o5;have A5:=zh (A4.trans s5);go_wp2_with fail;go_meet;exact⟨v5,rfl,by have h:=O5.o;rw[Xa]at h;exact h,A5.o,(T4.trans s5).row V2.o NE.o,((T4.trans s5).ne aK.o NE.o)⟩
 case rest=>
  rename World=>w6
  obtain⟨v,e0,hO,hA,hV,hN⟩:=hcut;obtain rfl:v=_:=e0.symm;have O6:=zh hO;have A6:=zh hA;have x3:w6.cell? ⟨w.heap.size,3,none⟩=some (.slice a m cap):=hV.cell (i:=3) (by decide);clear hO hA hN SZ NE O1 A1 B1 V1;go_upto_region 3 with fail;clear x3;go_loopg [0,19] m (fun g s0 bz wx=>∃(i:Nat) (u:Value),i+g=m∧bz=.int .i64 (i:Int)∧s0=u∧Hid (dw wx base u ((l0++3::iV m)++fQ (l.take i)))∧Hid (ay w v0 wx u));case atStart=>exact⟨0,v,by omega,rfl,rfl,zh (by rw[List.take_zero,show fQ []=[]from by simp[fQ],List.append_nil];exact O6.o),A6⟩
  case round=>
   clear O6 A6 hV;obtain⟨i,u,hi,rfl,e2,hO,hA⟩:=hrel;obtain rfl:u=_:=e2.symm;obtain⟨w7,rfl⟩:=zG wr;by_cases ai:i < m
   · have W7:=zh (bf.trans ((hA.below HO.o HB.o).mono aH.o));obtain⟨b2,off,rfl,bC,bD,hcell⟩:=(aZ.below W7.o).aI ai;have HE:=zh (hcell i ai);have CE:=zh (HC.o i ai);have OC:=zh CE.cells;have KD:=CE.kind;have KI:=qP (HF.o i ai);have KO:=zh (HK.o i ai);have EL:=zh (VR l (i:=i) (by rw[HM.o];exact ai));have ET:=zh (yF l (k:=i) (by rw[HM.o];exact ai));obtain⟨ti,aX⟩:=zg (l.getD i tv0);rw[aX]at CE KD KI KO EL ET
     have LB:Hid (((l0++3::iV m)++fQ (l.take i)).length+(dW ti).length≤140737488340000):=zh (by
      have h1:=HL.o;have h2:=EL.o
      simp only[Yf,Yr]at h1 ⊢;omega)
     have d0:decide ((i:Int) < (m:Int))=true:=zt (by omega);have z1:=Ye i;have z2:(i:Int) < (m:Int):=(by omega);have p0:0≤(i:Int)∧(i:Int) < (m:Int):=(by omega);have z3:((i:Int)).toNat=i:=Int.toNat_natCast i;have ZR:=zh (ag.new w7 107 4 eF);have ax:=zh KD;have aO:=zh KI;clear hcell aX bD ai KD KI EL;go_upto_region 5 with(first | ((with_reducible (show wpList _ _ _ (Oper.mk (some 22) _ _ _ _ _::_) _ _));refine zE b2 _ rfl YS off i (by omega) (cc i) HE.o ?_) | ((with_reducible refine zN ?_);refine zV ZR rfl (cc i) rfl YS OC.o ?_;intro w8 V8 o8));have b8:Below w7.heap.size w7 w8:=zO o8;have O8:=zh (hO.below b8);have A8:=zh (hA.trans (ay.of_below u b8));have W8:=zD W7 b8;clear b8 o8 hO hA HE ZR OC W7;refine Tc.aA (Tc.Rl.stay (fun k=>k < w8.heap.size)) 9 [] (.fl 0 (.fl 1 (.fl 2 (.fl 3 (.fl 4 (.fl 5 (.fl 6 (.fl 7 (.fl 8 .done))))))))) (by kernel_rfl) (by kernel_rfl) ?_;intro w9 b9 e9
     have V9:=zh (V8.below b9);have O9:=zh (O8.below b9);have A9:=zh (A8.trans (ay.of_below u b9));have W9:=zD W8 b9;have L1:=zh V8.lt;have R1:=zh (HW.1.below W9.o);have R2:=zh (HW.2.below W9.o);have L2:=zh (Yg HW.1.lt W8.size);have L3:=zh (Yg HW.2.lt W8.size);have H9:=zh (show base≤w9.heap.size from Yc HB.o A9.1.size);clear b9 e9 V8 O8 A8 W8;refine Tc.aj [0,1,2,3,4,5,6,7,8] [_,_,_,_,_,_,_,_,_] rfl ?_;dsimp only[zx,zy,zz];refine zC c 0 rfl zC214 (.pointer (some ⟨b,0,none⟩)) (fun W hW=>(aJ (S:=fun k=>k < w8.heap.size) R2.o L3.o hW).cell (i:=0) (by decide)) ?_;simp only[Act.put,zu];(repeat(go_big_quiet_want;go_big_quiet_op;first | go_big_quiet_on | (refine⟨_,fun _ _=>rfl,?_⟩;go_big_quiet_on)));rcases aO.o with k1 | k1 | k1
     · refine zC w7.heap.size 0 rfl zC3 (.int .i64 1) (fun W hW=>((aJ (S:=fun k=>k < w8.heap.size) V9.o L1.o hW).cell (i:=0) (by decide)).trans (by rw[ax.o,k1])) ?_;simp only[Act.put,zu];(repeat(go_big_quiet_want;go_big_quiet_op;first | go_big_quiet_on | (refine⟨_,fun _ _=>rfl,?_⟩;go_big_quiet_on)));refine zC b 1 rfl Zp (.func (.func 162) #[] #[]) (fun W hW=>(aJ (S:=fun k=>k < w8.heap.size) R1.o L2.o hW).cell (i:=1) (by decide)) ?_;simp only[Act.put,zu];(repeat(go_big_quiet_want;go_big_quiet_op;first | go_big_quiet_on | (refine⟨_,fun _ _=>rfl,?_⟩;go_big_quiet_on)));refine iE rfl 107 (.tmp 7) rfl w7.heap.size rfl _ Tryz.underlying107 rfl 4 (by kernel_rfl) 107 (cc i) (fun W hW=>aJ (S:=fun k=>k < w8.heap.size) V9.o L1.o hW) ?_;simp only[Act.put,zu];refine wpQuiet_nil ?_
       have call:Calls Tryz.prog 162 #[u,.agg (ah 4 (cc i))] w9 (fun e wx=>∃vx,e=.returned vx∧dw wx base vx (((l0++3::iV m)++fQ (l.take i))++dW ti)∧ay w9 u wx vx):=by
        have h:=KO.o base u _ w9 aH.o W9.o O9.o H9.o LB.o;rw[k1]at h;exact h
       have af:=zh call;clear call k1 ax aO V9 R1 R2 L1 L2 L3 KO LB;refine Tc.aF (l:=_) rfl (fun K hK=>?_);go_wp2_with fail;refine af.mono ?_;rintro e aY ⟨u2,rfl,ak,au⟩;have aB:=zh ak;have aG:=zh (A9.trans au);clear ak au A9 O9 af;go_wp2_with fail;go_roundg(gk - 1);case measure=>omega
       case rel=>
        go_light;exact⟨i+1,u2,by omega,by go_num,rfl,zh (by have h:=aB.o;rw[Xa,←ET.o]at h;exact h),aG⟩
     · refine zC w7.heap.size 0 rfl zC3 (.int .i64 2) (fun W hW=>((aJ (S:=fun k=>k < w8.heap.size) V9.o L1.o hW).cell (i:=0) (by decide)).trans (by rw[ax.o,k1])) ?_;simp only[Act.put,zu];(repeat(go_big_quiet_want;go_big_quiet_op;first | go_big_quiet_on | (refine⟨_,fun _ _=>rfl,?_⟩;go_big_quiet_on)));refine zC b 2 rfl Zp (.func (.func 165) #[] #[]) (fun W hW=>(aJ (S:=fun k=>k < w8.heap.size) R1.o L2.o hW).cell (i:=2) (by decide)) ?_;simp only[Act.put,zu];(repeat(go_big_quiet_want;go_big_quiet_op;first | go_big_quiet_on | (refine⟨_,fun _ _=>rfl,?_⟩;go_big_quiet_on)));refine iE rfl 107 (.tmp 7) rfl w7.heap.size rfl _ Tryz.underlying107 rfl 4 (by kernel_rfl) 107 (cc i) (fun W hW=>aJ (S:=fun k=>k < w8.heap.size) V9.o L1.o hW) ?_;simp only[Act.put,zu];refine wpQuiet_nil ?_
       have call:Calls Tryz.prog 165 #[u,.agg (ah 4 (cc i))] w9 (fun e wx=>∃vx,e=.returned vx∧dw wx base vx (((l0++3::iV m)++fQ (l.take i))++dW ti)∧ay w9 u wx vx):=by
        have h:=KO.o base u _ w9 aH.o W9.o O9.o H9.o LB.o;rw[k1]at h;exact h
       have af:=zh call;clear call k1 ax aO V9 R1 R2 L1 L2 L3 KO LB;refine Tc.aF (l:=_) rfl (fun K hK=>?_);go_wp2_with fail;refine af.mono ?_;rintro e aY ⟨u2,rfl,ak,au⟩;have aB:=zh ak;have aG:=zh (A9.trans au);clear ak au A9 O9 af;go_wp2_with fail;go_roundg(gk - 1);case measure=>omega
       case rel=>
        go_light;exact⟨i+1,u2,by omega,by go_num,rfl,zh (by have h:=aB.o;rw[Xa,←ET.o]at h;exact h),aG⟩
     · refine zC w7.heap.size 0 rfl zC3 (.int .i64 3) (fun W hW=>((aJ (S:=fun k=>k < w8.heap.size) V9.o L1.o hW).cell (i:=0) (by decide)).trans (by rw[ax.o,k1])) ?_;simp only[Act.put,zu];(repeat(go_big_quiet_want;go_big_quiet_op;first | go_big_quiet_on | (refine⟨_,fun _ _=>rfl,?_⟩;go_big_quiet_on)));refine zC b 3 rfl Zp (.func (.func 166) #[] #[.pointer (some ⟨c,0,none⟩)]) (fun W hW=>(aJ (S:=fun k=>k < w8.heap.size) R1.o L2.o hW).cell (i:=3) (by decide)) ?_;simp only[Act.put,zu];(repeat(go_big_quiet_want;go_big_quiet_op;first | go_big_quiet_on | (refine⟨_,fun _ _=>rfl,?_⟩;go_big_quiet_on)));refine iE rfl 107 (.tmp 7) rfl w7.heap.size rfl _ Tryz.underlying107 rfl 4 (by kernel_rfl) 107 (cc i) (fun W hW=>aJ (S:=fun k=>k < w8.heap.size) V9.o L1.o hW) ?_;simp only[Act.put,zu];refine wpQuiet_nil ?_
       have call:Calls Tryz.prog 166 #[u,.agg (ah 4 (cc i)),.pointer (some ⟨c,0,none⟩)] w9 (fun e wx=>∃vx,e=.returned vx∧dw wx base vx (((l0++3::iV m)++fQ (l.take i))++dW ti)∧ay w9 u wx vx):=by
        have h:=KO.o base u _ w9 aH.o W9.o O9.o H9.o LB.o;rw[k1]at h;exact h
       have af:=zh call;clear call k1 ax aO V9 R1 R2 L1 L2 L3 KO LB;refine Tc.aF (l:=_) rfl (fun K hK=>?_);go_wp2_with fail;refine af.mono ?_;rintro e aY ⟨u2,rfl,ak,au⟩;have aB:=zh ak;have aG:=zh (A9.trans au);clear ak au A9 O9 af;go_wp2_with fail;go_roundg(gk - 1);case measure=>omega
       case rel=>
        go_light;exact⟨i+1,u2,by omega,by go_num,rfl,zh (by have h:=aB.o;rw[Xa,←ET.o]at h;exact h),aG⟩
   · obtain rfl:i=m:=(by omega);have d0:decide ((i:Int) < (i:Int))=false:=zT (by omega);have e1:Hid (l.take i=l):=zh (Yq (by rw[HM.o];exact Ya _));go_wp2_with fail;go_ret;exact⟨u,rfl,by have h:=hO.o;rw[e1.o,Xa]at h;exact h,hA.o⟩
theorem Np(W0:World)(b c:Nat)(hw:Vr W0 b c):∀(d:Nat) (t:Tv) (v:Value),cO t≤d→cu t=true→dF W0 v t→WrOk W0 b c v t:=by
 intro d
 induction d using Nat.strongRecOn with
 | ind d ih=>
 intro t v hd hf hv;obtain⟨k,n,s,l⟩:=t;rcases qP hf with h1 | h1 | h1
 · obtain rfl:k=1:=h1;intro base v0 l0 w af hW h0 hbase hlen;exact Gj n s l v base v0 l0 w (hv.later hW) h0 hbase hlen
 · obtain rfl:k=2:=h1;intro base v0 l0 w af hW h0 hbase hlen;exact Iz n s l v base v0 l0 w (hv.later hW) h0 hbase hlen
 · obtain rfl:k=3:=h1;obtain⟨a,cap,c',rfl,hk,hn,hs,hl,hc⟩:=hv.open;rw[Bz]at hd;rw[RU,Bool.and_eq_true]at hf
   have ae:∀i,i < l.length→cu (l.getD i tv0)=true:=by
    intro i hi
    cases hb:cu (l.getD i tv0)with
    | true=>rfl
    | false=>rw[FY hi hb]at hf;exact absurd hf.2 (by decide)
   exact Hq W0 b c hw n s l a l.length cap rfl c' hl hc ae (fun i hi=>ih (d - 1) (by omega) _ _ (rX hi (by omega)) (ae i hi) (hc i hi))
theorem dw.lower{w:World}{base low:Nat}{v:Value}{l:List UInt8}(h:dw w base v l)(hb:low≤base):dw w low v l:=
 ⟨h.1,h.2.imp id (fun⟨g,cap,cur,e,ae,r⟩=>⟨g,cap,cur,e,Yc hb ae,r⟩)⟩
def mi(t:Tv):Int:=if cu t then(if 16 < cO t then 2 else 0)else 1
theorem Jy(t:Tv)(v:Value)(w:World)(hd:cO t≤1000)(hv:dF w v t):
 Calls Tryz.prog 109 #[v] w (zr (.int .i64 (mi t)) w):=by
 have H:=zh (fun W h=>Jc 1000 (Ya _) t v W hd h);have HV:=zh hv;obtain⟨k,n,s,l⟩:=t;obtain⟨a,cap,c,rfl, -⟩:=hv.open;obtain⟨m,hm⟩:=zg l.length;rw[hm]at H HV ⊢;obtain⟨fb,af⟩:=zg (cu (.mk k n s l));obtain⟨fd,ah⟩:=zg (fmD (.mk k n s l));have FD:Hid (fb=true→fd=((cO (.mk k n s l):Nat):Int)):=zh (fun h=>by rw[←ah,fmD,af,h];rfl);have CT:Hid (mi (.mk k n s l)=if fb then(if 16 < cO (.mk k n s l)then 2 else 0)else 1):=zh (by unfold mi;rw[af]);rw[af,ah]at H;obtain⟨ct,ai⟩:=zg (mi (.mk k n s l));rw[ai]at CT ⊢;obtain⟨dd,aj⟩:=zg (cO (.mk k n s l));rw[aj]at CT FD;clear hm af ah ai hv hd aj;go_in;have B0:=zh (Yb w.heap.size w);go_upto_region 1 with fail;obtain⟨w1,ak,b1,z1,V1⟩:=zQ w (.cells #[.int .i64 k,.int .i64 n,.string s,.slice a m cap] 107) 107 4 (bu k n s (.slice a m cap)) rfl;rw[ak];(try rw[z1]);have B1:=zD B0 b1;clear b1 ak z1 B0;have x0:_=some (Value.int .i64 k):=V1.cell (i:=0) (by decide)
 have x1:_=some (Value.int .i64 n):=V1.cell (i:=1) (by decide);have x2:_=some (Value.string s):=V1.cell (i:=2) (by decide);have x3:_=some (Value.slice a m cap):=V1.cell (i:=3) (by decide);have C1:=zh (HV.later B1.o);go_wp2_with fail;refine(H.o _ C1.o).mono ?_;rintro e w2 ⟨rfl,b2⟩;have B2:=zD B1 b2;clear b2 B1 V1;clear x0 x1 x2 x3 H HV C1;cases fb
 · obtain rfl:ct=1:=CT.o;clear CT FD;go_wp2_with fail;go_ret;exact⟨rfl,B2.o⟩
 · obtain rfl:=FD.o rfl;have ag:Hid (ct=if 16 < dd then 2 else 0):=zh CT.o;clear CT FD;by_cases ae:16 < dd
   · have d0:decide ((16:Int) < (dd:Int))=true:=zt (by omega);have d1:decide (16 < dd)=true:=(by rw[decide_eq_true_iff];exact ae);obtain rfl:ct=2:=(by rw[ag.o,if_pos ae]);clear ag ae;go_wp2_with fail;go_ret;exact⟨rfl,B2.o⟩
   · have d0:decide ((16:Int) < (dd:Int))=false:=zT (by omega);have d1:decide (16 < dd)=false:=(by rw[decide_eq_false_iff_not];exact ae);obtain rfl:ct=0:=(by rw[ag.o,if_neg ae]);clear ag ae;go_wp2_with fail;go_ret;exact⟨rfl,B2.o⟩
def uI(t:Tv)(w:World)(e:Ending)(w':World):Prop:=
 (if mi t=0 then ∃u,e=.returned (.tuple #[u,.int .i64 0])∧dw w' w.heap.size u (dW t)else e=.returned (.tuple #[.slice none 0 0,.int .i64 (mi t)]))∧Below w.heap.size w w'
theorem chkT_3(t:Tv):mi t=0∨mi t=1∨mi t=2:=by unfold mi;split<;>(try split)<;>simp
theorem chkT_0{t:Tv}(h:mi t=0):cu t=true∧cO t≤16:=by
 unfold mi at h;split at h
 · rename_i h1;refine⟨h1,?_⟩;split at h
   · cases h
   · omega
 · cases h
theorem Gi(t:Tv)(v:Value)(w:World)(hd:cO t≤1000)(hv:dF w v t)(hlen:(dW t).length≤140737488340000):
 Calls Tryz.prog 65 #[v] w (uI t w):=by
 have H:=zh (fun W h=>Jy t v W hd h);have HW:=zh (fun(hf:cu t=true) (W0:World) (b c:Nat) (hw:Vr W0 b c) (h:dF W0 v t)=>Np W0 b c hw 1000 t v hd hf h);have HV:=zh hv;have HL:=zh hlen;obtain⟨k,n,s,l⟩:=t;obtain⟨a,cap,c,rfl, -⟩:=hv.open;obtain⟨m,hm⟩:=zg l.length;rw[hm]at H HV HW ⊢;obtain⟨ct,ai⟩:=zg (mi (.mk k n s l));have ag:=zh ai;rw[ai]at H;clear hm ai hv hlen hd;rcases(ag.o▸chkT_3 (.mk k n s l):ct=0∨ct=1∨ct=2)with h0 | h0
 · subst h0;have HF:=chkT_0 ag.o;have KI:=zh (qP HF.1);have W1:=zh (HW.o HF.1);clear HF HW;go_in;have B0:=zh (Yb w.heap.size w);go_upto_region 1 with fail;obtain⟨w1,ah,b1,z1,V1⟩:=zQ w (.cells #[.int .i64 k,.int .i64 n,.string s,.slice a m cap] 107) 107 4 (bu k n s (.slice a m cap)) rfl;rw[ah];(try rw[z1]);have B1:=zD B0 b1;clear b1 ah z1 B0;have x0:_=some (Value.int .i64 k):=V1.cell (i:=0) (by decide);have x1:_=some (Value.int .i64 n):=V1.cell (i:=1) (by decide);have x2:_=some (Value.string s):=V1.cell (i:=2) (by decide);have x3:_=some (Value.slice a m cap):=V1.cell (i:=3) (by decide);have C1:=zh (HV.later B1.o);go_wp2_with fail;refine(H.o _ C1.o).mono ?_;rintro e w2 ⟨rfl,b2⟩;have B2:=zD B1 b2;have V2:=zh (V1.below b2);clear b2 B1 V1;clear x0 x1 x2 x3 H C1;go_upto_region 4 with fail;have L2:=zh V2.lt
   refine Tc.aA (Tc.Rl.stay (fun k=>k < w2.heap.size)) 8 [] (.fl 1 (.fl 2 (.fl 7 (.one 0 (.fl 3 (.fl 4 (.fl 5 (.one 6 .done)))))))) (by kernel_rfl) (by kernel_rfl) ?_;intro w3 b3 e3;have B3:=zD B2 b3;have V3:=zh (V2.below b3);have S3:=zh b3.size;clear b3 e3 B2 V2;refine Tc.aj [1,2,7] [_,_,_] rfl ?_;dsimp only[zx,zy,zz];(repeat(go_big_quiet_want;go_big_quiet_op;first | go_big_quiet_on | (refine⟨_,fun _ _=>rfl,?_⟩;go_big_quiet_on)));refine zC w.heap.size 0 rfl zC3 (.int .i64 k) (fun W hW=>(aJ (S:=fun k=>k < w2.heap.size) V3.o L2.o hW).cell (i:=0) (by decide)) ?_;simp only[Act.put,zu];refine iE rfl 107 (.tmp 1) rfl w.heap.size rfl _ Tryz.underlying107 rfl 4 (by kernel_rfl) 107 _ (fun W hW=>aJ (S:=fun k=>k < w2.heap.size) V3.o L2.o hW) ?_;simp only[Act.put,zu];refine wpQuiet_nil ?_;refine Tc.ae 0 rfl (fun K hK=>?_);go_wp2_with fail;refine(xI _).mono ?_;rintro e w4 ⟨⟨b,c,rfl,ak⟩,b4⟩
   go_wp2_with fail;refine hK _ _ (aC b4 (fun k hk=>Yg hk S3.o)) ?_;have B4:=zD B3 b4;have R4:=zh ak;have HC:=zh (W1.o w4 b c ak (HV.later B4.o));clear hK K b4 ak B3 V3 S3 L2 W1 HV;rcases KI.o with k1 | k1 | k1
   · obtain rfl:k=1:=k1
     have call:Calls Tryz.prog 162 (#[.slice none 0 0,.agg #[.int .i64 1,.int .i64 n,.string s,.slice a m cap]]) w4 (fun e wx=>∃vx,e=.returned vx∧dw wx w4.heap.size vx ([]++dW (.mk 1 n s l))∧ay w4 (.slice none 0 0) wx vx):=
      HC.o w4.heap.size (.slice none 0 0) [] w4 (Ya _) (Yb _ _) (dw.nil _ _) (Ya _) (by have :=HL.o;simpa using this)
     have af:=zh call;have EP:Hid (mi (.mk 1 n s l)=0):=ag;clear call HC ag KI;refine Tc.aj [3,4,5] [_,_,_] rfl ?_;dsimp only[zx,zy,zz];(repeat(go_big_quiet_want;go_big_quiet_op;first | go_big_quiet_on | (refine⟨_,fun _ _=>rfl,?_⟩;go_big_quiet_on)));refine wpQuiet_nil ?_;refine Tc.ae 6 rfl (fun K hK=>?_);have y:w4.cell? ⟨b,1,none⟩=some (.func (.func 162) #[] #[]):=R4.1.cell (i:=1) (by decide);go_wp2_with fail;refine hK _ _ (Tc.Rl.refl _ _) ?_;clear hK K y;refine Tc.aF (l:=_) rfl (fun K hK=>?_);go_wp2_with fail;refine af.mono ?_;rintro e w5 ⟨u,rfl,o5,s5⟩;have O5:=zh o5;have B5:=zh (B4.trans ((s5.below (dw.nil w4 w4.heap.size) (Ya _)).mono B4.size));clear o5 s5 af;go_wp2_with fail;go_ret2;exact⟨by rw[EP.o,if_pos rfl];exact⟨u,rfl,O5.lower B4.size⟩,B5.o⟩
   · obtain rfl:k=2:=k1
     have call:Calls Tryz.prog 165 (#[.slice none 0 0,.agg #[.int .i64 2,.int .i64 n,.string s,.slice a m cap]]) w4 (fun e wx=>∃vx,e=.returned vx∧dw wx w4.heap.size vx ([]++dW (.mk 2 n s l))∧ay w4 (.slice none 0 0) wx vx):=
      HC.o w4.heap.size (.slice none 0 0) [] w4 (Ya _) (Yb _ _) (dw.nil _ _) (Ya _) (by have :=HL.o;simpa using this)
     have af:=zh call;have EP:Hid (mi (.mk 2 n s l)=0):=ag;clear call HC ag KI;refine Tc.aj [3,4,5] [_,_,_] rfl ?_;dsimp only[zx,zy,zz];(repeat(go_big_quiet_want;go_big_quiet_op;first | go_big_quiet_on | (refine⟨_,fun _ _=>rfl,?_⟩;go_big_quiet_on)));refine wpQuiet_nil ?_;refine Tc.ae 6 rfl (fun K hK=>?_);have y:w4.cell? ⟨b,2,none⟩=some (.func (.func 165) #[] #[]):=R4.1.cell (i:=2) (by decide);go_wp2_with fail;refine hK _ _ (Tc.Rl.refl _ _) ?_;clear hK K y;refine Tc.aF (l:=_) rfl (fun K hK=>?_);go_wp2_with fail;refine af.mono ?_;rintro e w5 ⟨u,rfl,o5,s5⟩;have O5:=zh o5;have B5:=zh (B4.trans ((s5.below (dw.nil w4 w4.heap.size) (Ya _)).mono B4.size));clear o5 s5 af;go_wp2_with fail;go_ret2;exact⟨by rw[EP.o,if_pos rfl];exact⟨u,rfl,O5.lower B4.size⟩,B5.o⟩
   · obtain rfl:k=3:=k1
     have call:Calls Tryz.prog 166 (#[.slice none 0 0,.agg #[.int .i64 3,.int .i64 n,.string s,.slice a m cap],.pointer (some ⟨c,0,none⟩)]) w4 (fun e wx=>∃vx,e=.returned vx∧dw wx w4.heap.size vx ([]++dW (.mk 3 n s l))∧ay w4 (.slice none 0 0) wx vx):=
      HC.o w4.heap.size (.slice none 0 0) [] w4 (Ya _) (Yb _ _) (dw.nil _ _) (Ya _) (by have :=HL.o;simpa using this)
     have af:=zh call;have EP:Hid (mi (.mk 3 n s l)=0):=ag;clear call HC ag KI;refine Tc.aj [3,4,5] [_,_,_] rfl ?_;dsimp only[zx,zy,zz];(repeat(go_big_quiet_want;go_big_quiet_op;first | go_big_quiet_on | (refine⟨_,fun _ _=>rfl,?_⟩;go_big_quiet_on)));refine wpQuiet_nil ?_;refine Tc.ae 6 rfl (fun K hK=>?_);have y:w4.cell? ⟨b,3,none⟩=some (.func (.func 166) #[] #[.pointer (some ⟨c,0,none⟩)]):=R4.1.cell (i:=3) (by decide);go_wp2_with fail;refine hK _ _ (Tc.Rl.refl _ _) ?_;clear hK K y;refine Tc.aF (l:=_) rfl (fun K hK=>?_);go_wp2_with fail;refine af.mono ?_;rintro e w5 ⟨u,rfl,o5,s5⟩;have O5:=zh o5;have B5:=zh (B4.trans ((s5.below (dw.nil w4 w4.heap.size) (Ya _)).mono B4.size));clear o5 s5 af;go_wp2_with fail;go_ret2;exact⟨by rw[EP.o,if_pos rfl];exact⟨u,rfl,O5.lower B4.size⟩,B5.o⟩
 · have EP:Hid (uI (.mk k n s l) w=fun e w'=>e=.returned (.tuple #[.slice none 0 0,.int .i64 ct])∧Below w.heap.size w w'):=zh (by
    funext e w';unfold uI;rw[ag.o,if_neg (by rcases h0 with h | h<;>rw[h]<;>decide)])
   rw[EP.o];clear EP HW ag;rcases h0 with h0 | h0<;>subst h0
   · go_in;have B0:=zh (Yb w.heap.size w);go_upto_region 1 with fail;obtain⟨w1,ah,b1,z1,V1⟩:=zQ w (.cells #[.int .i64 k,.int .i64 n,.string s,.slice a m cap] 107) 107 4 (bu k n s (.slice a m cap)) rfl;rw[ah];(try rw[z1]);have B1:=zD B0 b1;clear b1 ah z1 B0;have x0:_=some (Value.int .i64 k):=V1.cell (i:=0) (by decide);have x1:_=some (Value.int .i64 n):=V1.cell (i:=1) (by decide);have x2:_=some (Value.string s):=V1.cell (i:=2) (by decide);have x3:_=some (Value.slice a m cap):=V1.cell (i:=3) (by decide);have C1:=zh (HV.later B1.o);go_wp2_with fail;refine(H.o _ C1.o).mono ?_;rintro e w2 ⟨rfl,b2⟩;have B2:=zD B1 b2;have V2:=zh (V1.below b2);clear b2 B1 V1;go_wp2_with fail;go_ret2;exact⟨rfl,B2.o⟩
   · go_in;have B0:=zh (Yb w.heap.size w);go_upto_region 1 with fail;obtain⟨w1,ah,b1,z1,V1⟩:=zQ w (.cells #[.int .i64 k,.int .i64 n,.string s,.slice a m cap] 107) 107 4 (bu k n s (.slice a m cap)) rfl;rw[ah];(try rw[z1]);have B1:=zD B0 b1;clear b1 ah z1 B0;have x0:_=some (Value.int .i64 k):=V1.cell (i:=0) (by decide);have x1:_=some (Value.int .i64 n):=V1.cell (i:=1) (by decide);have x2:_=some (Value.string s):=V1.cell (i:=2) (by decide);have x3:_=some (Value.slice a m cap):=V1.cell (i:=3) (by decide);have C1:=zh (HV.later B1.o);go_wp2_with fail;refine(H.o _ C1.o).mono ?_;rintro e w2 ⟨rfl,b2⟩;have B2:=zD B1 b2;have V2:=zh (V1.below b2);clear b2 B1 V1;go_wp2_with fail;go_ret2;exact⟨rfl,B2.o⟩
theorem dw.one(w:World)(y:UInt8):dw (w.alloc (.cells #[vB y] 5)) w.heap.size (.slice (some ⟨w.heap.size,0,none⟩) 1 1) [y]:=
 ⟨rfl,.inr ⟨w.heap.size,1, #[vB y],rfl,Ya _,by show(w.heap.push _)[_]? =_;simp,Ya _,by decide,rfl,rfl⟩⟩
theorem gY(n:Int)(w:World):
 Calls Tryz.prog 62 #[.int .i64 n] w (zr (.agg #[.int .i64 1,.int .i64 n,.string ByteArray.empty,.slice none 0 0]) w):=by
 go_in;go_wp2_with fail;refine bodyPost_ret (v:=.agg #[.int .i64 1,.int .i64 n,.string ByteArray.empty,.slice none 0 0]) (by exact zB (zh (ag.new w _ 4 (bu 1 n ByteArray.empty (.slice none 0 0)))) rfl rfl YS) rfl ⟨rfl,?_⟩;exact(Yb _ w).alloc (Ya _) _
theorem qQ(s:ByteArray)(w:World):
 Calls Tryz.prog 63 #[.string s] w (zr (.agg #[.int .i64 2,.int .i64 0,.string s,.slice none 0 0]) w):=by
 go_in;go_wp2_with fail;refine bodyPost_ret (v:=.agg #[.int .i64 2,.int .i64 0,.string s,.slice none 0 0]) (by exact zB (zh (ag.new w _ 4 (bu 2 0 s (.slice none 0 0)))) rfl rfl YS) rfl ⟨rfl,?_⟩;exact(Yb _ w).alloc (Ya _) _
theorem ji(a:Option Addr)(m cap:Nat)(w:World):
 Calls Tryz.prog 31 #[.slice a m cap] w (zr (.agg #[.int .i64 3,.int .i64 0,.string ByteArray.empty,.slice a m cap]) w):=by
 go_in;go_wp2_with fail;refine bodyPost_ret (v:=.agg #[.int .i64 3,.int .i64 0,.string ByteArray.empty,.slice a m cap]) (by exact zB (zh (ag.new w _ 4 (bu 3 0 ByteArray.empty (.slice a m cap)))) rfl rfl YS) rfl ⟨rfl,?_⟩;exact(Yb _ w).alloc (Ya _) _
def SlS(S:Nat→Prop)(s:Nat)(w:World)(v:Value)(n:Nat)(c:Nat→Nat→Value):Prop:=
 ((∃(a:Option Addr) (k:Nat),v=.slice a 0 k∧(a=none→k=0))∧n=0)∨
 ∃b off cap:Nat,v=.slice (some ⟨b,off,none⟩) n cap∧n≤cap∧0 < n∧((n:Int)≤140737488351232∧(cap:Int)≤9223372036854775807)∧(b < w.heap.size∧S b)∧∀i,i < n→∀j,j < s→w.cell? ⟨b,off+s*i+j,none⟩=some (c i j)
theorem SlS.at'{S:Nat→Prop}{s:Nat}{w:World}{v:Value}{n:Nat}{c:Nat→Nat→Value}(h:SlS S s w v n c):aN s w v n c:=by
 rcases h with h | ⟨b,off,cap,h1,h2,h3,h4,h5,h6⟩
 · exact .inl h
 · exact .inr ⟨b,off,cap,h1,h2,h3,h4,h5.1,h6⟩
theorem SlS.keep{S S':Nat→Prop}{s:Nat}{w w':World}{v:Value}{n:Nat}{c:Nat→Nat→Value}(h:SlS S s w v n c)(hs:w.heap.size≤w'.heap.size)(hb:∀b,b < w.heap.size→S b→S' b∧w'.heap[b]? =w.heap[b]?):SlS S' s w' v n c:=by
 rcases h with h | ⟨b,off,cap,h1,h2,h3,h4,h5,h6⟩
 · exact .inl h
 · obtain⟨g1,g2⟩:=hb b h5.1 h5.2;exact .inr ⟨b,off,cap,h1,h2,h3,h4,⟨Yg h5.1 hs,g1⟩,fun i hi j hj=>(World.cell?_of_block (w:=w) (w':=w') (a:=⟨b,off+s*i+j,none⟩) g2).trans (h6 i hi j hj)⟩
inductive gB(S:Nat→Prop)(w:World):Value→Tv→Prop
 | mk (k n:Int) (s:ByteArray) (sl:Value) (l:List Tv) (c:Nat→Nat→Value) (hk:bQ k) (hn:bQ n) (hs:(s.size:Int)≤140737488351232) (hl:SlS S 4 w sl l.length c)
    (h:∀i,i < l.length→gB S w (.agg (ah 4 (c i))) (l.getD i tv0)):gB S w (.agg #[.int .i64 k,.int .i64 n,.string s,sl]) (.mk k n s l)
theorem gB.at'{S:Nat→Prop}{w:World}{v:Value}{t:Tv}(h:gB S w v t):dF w v t:=by
 induction h with
 | mk k n s sl l c hk hn hs hl _ ih=>exact .mk k n s sl l c hk hn hs hl.at' ih
theorem gB.keep{S S':Nat→Prop}{w w':World}{v:Value}{t:Tv}(h:gB S w v t)(hs:w.heap.size≤w'.heap.size)(hb:∀b,b < w.heap.size→S b→S' b∧w'.heap[b]? =w.heap[b]?):gB S' w' v t:=by
 induction h with
 | mk k n s sl l c hk hn hs' hl _ ih=>exact .mk k n s sl l c hk hn hs' (hl.keep hs hb) ih
def pW(n:Nat)(c:Nat→Nat→Value):List Value:=(List.range (4*n)).map fun j=>c (j / 4) (j % 4)
theorem Pg{n:Nat}{c:Nat→Nat→Value}{i j:Nat}(hi:i < n)(hj:j < 4):(pW n c)[4*i+j]? =some (c i j):=by
 unfold pW;rw[Xg,Xh (by omega),Option.map_some,show(4*i+j) / 4=i by omega,show(4*i+j) % 4=j by omega]
theorem Jg(n:Nat)(c:Nat→Nat→Value)(f:Nat→Value):pW (n+1) (fun i=>if i=n then f else c i)=pW n c++[f 0,f 1,f 2,f 3]:=by
 unfold pW;rw[show 4*(n+1)=4*n+4 by omega,List.range_add,Yn];congr 1
 · refine List.map_congr_left fun j hj=>?_;have :=List.mem_range.1 hj;show(if j / 4=n then f else c (j / 4)) (j % 4)=c (j / 4) (j % 4);rw[if_neg (by omega)]
 · simp only[List.map_map];show [_,_,_,_]=_;simp only[Function.comp_apply];rw[show(4*n+0) / 4=n by omega,show(4*n+1) / 4=n by omega,show(4*n+2) / 4=n by omega,show(4*n+3) / 4=n by omega,show(4*n+0) % 4=0 by omega,show(4*n+1) % 4=1 by omega,show(4*n+2) % 4=2 by omega,show(4*n+3) % 4=3 by omega];simp
def dN(w:World)(base:Nat)(v:Value)(ts:List Tv):Prop:=
 ∃c,w.ownsRow base 107 4 v ts.length (pW ts.length c)∧∀i,i < ts.length→gB (fun b=>base≤b∧v.ownBlock≠some b) w (.agg (ah 4 (c i))) (ts.getD i tv0)
theorem dN.nil(w:World)(base:Nat):dN w base (.slice none 0 0) []:=⟨fun _ _=>.int .i64 0,World.ownsRow_nil _ _ _ _,fun i hi=>absurd hi (by simp)⟩
theorem dN.keep{w w':World}{base:Nat}{v:Value}{ts:List Tv}(h:dN w base v ts)(hs:w.grownBy w' none)(hb:∀b,base≤b→b < w.heap.size→w'.heap[b]? =w.heap[b]?):dN w' base v ts:=by
 obtain⟨c,h1,h2⟩:=h;refine⟨c,World.ownsRow.kept h1 (row:=none) hs ?_,fun i hi=>(h2 i hi).keep hs.size (fun b ae hS=>⟨hS,hb b hS.1 ae⟩)⟩
 cases hv:v.ownBlock with
 | none=>exact .inl rfl
 | some k=>exact .inr (by simp)
theorem dN.only {w w':World}{base rb:Nat}{v:Value}{ts:List Tv}(h:dN w base v ts)(os:w'.os=w.os)(tape:w'.tape=w.tape)(output:w'.output=w.output)(hs:w.heap.size≤w'.heap.size)(hb:∀b,b < w.heap.size→b≠rb→w'.heap[b]? =w.heap[b]?)(af:rb < base):dN w' base v ts:=by
 obtain⟨c,h1,h2⟩:=h;refine⟨c,World.ownsRow.kept h1 (row:=some rb) ⟨os,tape,output,hs,fun k hk hn=>hb k hk (fun e=>hn (by rw[e]))⟩ ?_,fun i hi=>(h2 i hi).keep hs (fun b ae hS=>⟨hS,hb b ae (by have :=hS.1;omega)⟩)⟩
 cases hv:v.ownBlock with
 | none=>exact .inl rfl
 | some k=>exact .inr (by intro e;have :=(World.ownsRow.lt h1 k hv).1;rw[Yx e]at this;omega)
theorem dN.lt{w:World}{base:Nat}{v:Value}{ts:List Tv}(h:dN w base v ts):∀k,v.ownBlock=some k→base≤k∧k < w.heap.size:=by
 obtain⟨c,h1,_⟩:=h;exact World.ownsRow.lt h1
theorem dN.slice{w:World}{base:Nat}{v:Value}{ts:List Tv}(h:dN w base v ts):∃(a:Option Addr) (c:Nat),v=.slice a ts.length c:=by
 obtain⟨c,h1,_⟩:=h;rcases h1.2 with⟨rfl,h3⟩ | ⟨g,cap,cur,rfl,_⟩
 · exact⟨none,0,by rw[h3]⟩
 · exact⟨_,_,rfl⟩
theorem gB.agg{S:Nat→Prop}{w:World}{u:Value}{t:Tv}(h:gB S w u t):∃k n s a m c,u=.agg #[.int .i64 k,.int .i64 n,.string s,.slice a m c]:=by
 cases h with
 | mk k n s sl l c hk hn hs hl hi=>
   obtain⟨a,cap,rfl⟩:=hl.at'.slice;exact⟨k,n,s,a,_,cap,rfl⟩
theorem dN.read{w:World}{base:Nat}{v:Value}{ts:List Tv}(h:dN w base v ts)(hn:(ts.length:Int)≤140737488351232){S:Nat→Prop}(hS:∀b,base≤b→S b):
 ∃c,SlS S 4 w v ts.length c∧∀i,i < ts.length→gB S w (.agg (ah 4 (c i))) (ts.getD i tv0):=by
 obtain⟨c,h1,h2⟩:=h;refine⟨c,?_,fun i hi=>(h2 i hi).keep (Ya _) (fun b _ hb=>⟨hS b hb.1,rfl⟩)⟩;rcases h1.2 with⟨rfl,h3⟩ | ⟨g,cap,cur,rfl,hb,hg,hle,hm,hs,ht⟩
 · exact .inl ⟨⟨none,0,rfl,fun _=>rfl⟩,h3⟩
 · by_cases h0:ts.length=0
   · exact .inl ⟨⟨_,cap,by rw[h0],fun h=>by cases h⟩,h0⟩
   · unfold maxLen at hm;refine .inr ⟨g,0,cap,rfl,hle,by omega,⟨hn,by omega⟩,⟨(Yi.1 hg).1,hS g hb⟩,fun i hi j hj=>?_⟩;have h4:=World.ownsRow.cells h1 (g:=g) rfl (4*i+j) (c i j) (Pg hi hj)
     rw[Addr.add_mid,Nat.add_assoc]at *
     simpa using h4
theorem OD:(Tryz.prog.info? 107).map (fun i=>(i.zero,i.size,i.bytes))=some (some (.agg #[.int .i64 0,.int .i64 0,.string ByteArray.empty,.slice none 0 0]),4,56):=by kernel_rfl
theorem gV{T:TypeId}{z:Value}{s b:Nat}(h:(Tryz.prog.info? T).map (fun i=>(i.zero,i.size,i.bytes))=some (some z,s,b)):∃i,Tryz.prog.info? T=some i∧i.zero=some z∧i.size=s∧i.bytes=b:=by
 obtain⟨i,h1,h2⟩:=Option.map_eq_some_iff.1 h;simp only[Prod.mk.injEq]at h2;exact⟨i,h1,h2.1,h2.2.1,h2.2.2⟩
theorem dR{w:World}{ops:Array Oper}{rest:List Oper}{o:Oper}{a:Act}{Q:Exit→Act→World→Prop}(ax:o.guard=none)(s x:Operand)
 (ho:o.op=.call {callee:=.builtin .append,args:= #[s,x],argTypes:= #[105,105]})
 (base:Nat) (v:Value) (ts:List Tv) (hs:a.eval s=v) (ai:dN w base v ts) (g2 c2:Nat) (f:Nat→Value) (t:Tv) (hx:a.eval x=.slice (some ⟨g2,0,none⟩) 1 c2)
 (aj:ag w g2 107 4 f) (ht:gB (fun b=>base≤b∧v.ownBlock≠some b) w (.agg (ah 4 f)) t) (hlen:ts.length≤1000000) (hbase:base≤w.heap.size)
 (h:∀v' w',Hid (dN w' base v' (ts++[t]))→Hid (ay w v w' v')→wpList Tryz.prog ops Q rest (a.put o.dst v') w'):wpList Tryz.prog ops Q (o::rest) a w:=by
 obtain⟨c,h1,h2⟩:=ai;obtain⟨i0,hi,az,aA,aB⟩:=gV OD;have ae:=ht.at'.cells;refine jh ax s x 105 ho base 107 i0 _ 4 56 Tryz.underlying105 hi az aA aB rfl (by decide) v ts.length (pW ts.length c) hs h1 ⟨g2,0,none⟩ 1 c2 [f 0,f 1,f 2,f 3] hx rfl ?_ ?_ (by unfold maxLen;omega) (by omega) hbase ?_
 · intro j u hj;rw[Addr.add_mid,Yl];have ak:j < 4:=(by have :=(Ys.1 hj).1;simpa using this);rw[aj.cell ak,←hj]
   match j,ak with
   | 0,_=>rfl
   | 1,_=>rfl
   | 2,_=>rfl
   | 3,_=>rfl
 · intro u hu;simp only[List.mem_cons,List.not_mem_nil,or_false]at hu;rcases hu with rfl | rfl | rfl | rfl
   · exact ae 0 (by decide)
   · exact ae 1 (by decide)
   · exact ae 2 (by decide)
   · exact ae 3 (by decide)
 · intro v' w' h3 h4
   have af:∀{u:Value} {q:Tv},gB (fun b=>base≤b∧v.ownBlock≠some b) w u q→gB (fun b=>base≤b∧v'.ownBlock≠some b) w' u q:=fun hq=>
    hq.keep h4.1.size (fun b au hS=>⟨⟨hS.1,h4.ne au hS.2⟩,h4.block au hS.2⟩)
   refine h v' w' ⟨fun i=>if i=ts.length then f else c i,?_,?_⟩ h4
   · rw[Yf,Yj,Jg];exact h3
   · intro i hi;rw[Yf,Yj]at hi;show gB _ _ (.agg (ah 4 (if i=ts.length then f else c i))) _;by_cases e:i=ts.length
     · subst e;rw[if_pos rfl,Yd,Xb (Ya _),Nat.sub_self];exact af ht
     · rw[if_neg e,Yd,Xd (by omega),←Yd];exact af (h2 i (by omega))
end Go.Proofs.YtfddbnmfllgifaaGreatDoor
namespace Go.Proofs.YtfddbnmfllgifaaGreatDoor
open Go.RowKit
def u64(z:Int):Nat:=(z % 18446744073709551616).toNat
theorem u64_lt(z:Int):u64 z < 18446744073709551616:=by unfold u64;omega
theorem QQ(z:Int):IntKind.u64.wrap z=((u64 z:Nat):Int):=by rw[IntKind.wrap_u64];unfold u64;omega
def Sm(z:Int):List UInt8:=Sha.be8 (u64 z)
theorem Vh(z:Int):(Sm z).length=8:=rfl
def jy(zs:List Int):List UInt8:=(zs.map Sm).flatten
theorem Gs(zs:List Int){k:Nat}(h:k < zs.length):jy (zs.take (k+1))=jy (zs.take k)++Sm (zs.getD k 0):=by
 unfold jy;rw[List.take_succ_eq_append_getElem h,Yn,List.flatten_append,Yd,Yh h];simp
theorem qV:∀zs:List Int,(jy zs).length=8*zs.length
 | []=>rfl
 | z::zs=>by
   have :jy (z::zs)=Sm z++jy zs:=(by simp[jy]);rw[this,Yf,qV zs,Vh];simp;omega
def RF(t:List UInt8)(m:List UInt8)(zs:List Int):Nat:=BI t (jy zs++m)
theorem Qy(s:ByteArray)(v:Value)(m:List UInt8)(b cp:Nat)(zs:List Int)(w:World)(hs:s.size≤1000)(hm:m.length≤1000)(hv:BytesAt w v m)(hT:Tab w)
 (hz:ag w b 3 zs.length (fun i=>.int .i64 (zs.getD i 0))) (hn:zs.length≤2):
 Calls Tryz.prog 155 #[.string s,v,.slice (some ⟨b,0,none⟩) zs.length cp] w (zr (.int .i64 ((RF s.data.toList m zs:Nat):Int)) w):=by
 obtain⟨va,vc,rfl⟩:=hv.slice;have Hv:=zh hv;have HT:=zh hT;have Hz:=zh hz;have Hm:=zh hm;have Hn:=zh hn;have Hs:=zh hs;have P0:Hid (dw w w.heap.size (.slice none 0 0) (jy (zs.take 0))):=zh (dw.nil w _);have B0:=zh (Yb w.heap.size w);obtain⟨L,hL⟩:=zg zs.length;have HL:=zh hL;rw[hL]at hn ⊢;clear hv hT hz hm hL hs;go_in;go_wp2_with fail;go_loopg [7,13] L (fun g s7 ax wx=>∃(k:Nat) (u:Value),k+g=L∧ax=.int .i64 (k:Int)∧s7=u∧Hid (dw wx w.heap.size u (jy (zs.take k)))∧Hid (Below w.heap.size w wx));case atStart=>exact⟨0,_,by omega,rfl,rfl,P0,B0⟩
 case round=>
  clear P0 B0;obtain⟨k,u,hk,rfl,e2,hO,hB⟩:=hrel;obtain rfl:u=_:=e2.symm;obtain⟨G,hG⟩:=zg gk;by_cases ai:k < L
  · have d0:decide ((k:Int) < (L:Int))=true:=zt (by omega);have z1:=Ye k;have z2:(k:Int) < (L:Int):=(by omega);have p0:0≤(k:Int)∧(k:Int) < (L:Int):=(by omega);have z3:((k:Int)).toNat=k:=Int.toNat_natCast k;have c1:=(Hz.below hB.o).cell (i:=k) (by rw[HL.o];exact ai);have hstep:=Gs zs (k:=k) (by rw[HL.o];exact ai);have ae:(jy (zs.take k)).length≤16:=(by rw[qV,Yu];have :=Hn.o;omega);obtain⟨z,hz⟩:=zg (zs.getD k 0);rw[hz]at c1 hstep;obtain⟨l0,aj⟩:=zg (jy (zs.take k));rw[aj]at hO hstep ae;have hw:=QQ z;have ak:=u64_lt z;unfold Sm at hstep;obtain⟨n,hn⟩:=zg (u64 z);rw[hn]at hw ak hstep;have ah:=zh hstep;have af:=zh ae;have P1:Hid (dw wr w.heap.size u (l0++(Sha.be8 n).take 0)):=zh (by rw[List.take_zero,List.append_nil];exact hO.o);clear hn ak hstep ae aj hz;go_wp2_with fail;clear c1
    go_loopg [7,10] 8 (fun g s7 ay wx=>∃(j:Nat) (u:Value),j+g=8∧ay=.int .i64 (56 - 8*(j:Int))∧s7=u∧Hid (dw wx w.heap.size u (l0++(Sha.be8 n).take j))∧Hid (Below w.heap.size w wx));case atStart=>exact⟨0,u,by omega,rfl,rfl,P1,hB⟩
    case round=>
     clear P1 hB hO;obtain⟨j,u,hj,rfl,e3,hO,hB⟩:=hrel;obtain rfl:u=_:=e3.symm;by_cases au:j < 8
     · have d1:decide (8*(j:Int)≤56)=true:=zt (by omega);have d2:decide (0≤56 - 8*(j:Int))=true:=zt (by omega);have y1:=Ye j;have y2:(j:Int) < 8:=(by omega);have y3:(56 - 8*(j:Int)).toNat=8*(7 - j):=(by omega);have y4:(0:Int)≤56 - 8*(j:Int):=(by omega);have hv:=JE n (7 - j);have hs:=Ti n au;obtain⟨x,hx⟩:=zg (jG n (7 - j));rw[hx]at hv hs;have Hs:=zh hs
       have L4:=zh (show(l0++(Sha.be8 n).take j).length+[x].length≤140737488351232 from by
        have :=af.o
        rw[Yj,Yf,Yu];omega)
       clear hs hx au;go_wp2_with((with_reducible (show wpList _ _ _ (Oper.mk (some 28) _ _ _ _ _::_) _ _));refine iF rfl (.tmp 21) (.tmp 27) rfl w.heap.size u (.slice (some ⟨wr.heap.size,0,none⟩) 1 1) _ _ rfl rfl (dw.alloc hO.o _) (one_byte wr x) L4.o (hB.alloc hB.size _).size ?_;intro v3 w3 O3 B3 _);go_roundg(gk - 1);case measure=>omega
       case rel=>
        go_light;refine⟨j+1,v3,by omega,by congr 1;omega,rfl,zh ?_,zh ((hB.alloc hB.size _).trans B3.o)⟩;have h:=O3.o;rw[Xa,Hs.o]at h;exact h
     · obtain rfl:j=8:=(by omega);have d1:decide (8*((8:Nat):Int)≤56)=false:=(by decide);have d2:decide ((0:Int)≤56 - 8*((8:Nat):Int))=false:=(by decide);go_wp2_with fail;go_roundg(G - 1);case measure=>omega
       case rel=>
        go_light;refine⟨k+1,u,by omega,rfl,rfl,zh ?_,hB⟩;have h:=hO.o;rw[Yq (by simp[Sha.be8]),←ah.o]at h;exact h
  · obtain rfl:k=L:=(by omega);have d0:decide ((k:Int) < (k:Int))=false:=(by simp);have az:Hid (dw wr w.heap.size u (jy zs)):=zh (by have h:=hO.o;rw[Yq (by rw[HL.o];exact Ya _)]at h;exact h);have ae:(jy zs).length≤16:=(by rw[qV,HL.o];omega);have L5:=zh (show(jy zs).length+m.length≤140737488351232 from by have :=Hm.o;omega);have af:=zh ae;clear hO ae ai;go_wp2_with((with_reducible (show wpList _ _ _ (Oper.mk (some 33) _ _ _ _ _::_) _ _));refine iF rfl (.tmp 31) (.tmp 32) rfl w.heap.size u (.slice va m.length vc) _ _ rfl rfl az.o (Hv.below hB.o) L5.o hB.size ?_;intro v3 w3 O3 B3 _);have B4:=hB.trans B3.o;have aA:(jy zs++m).length≤1016:=(by rw[Yf];have :=Hm.o;have :=af.o;omega);refine(GH s v3 (jy zs++m) w3 (by have :=Hs.o;omega) (by omega) (O3.kG (by omega)) (HT.below B4)).mono ?_;rintro e w4 ⟨rfl,b4⟩;have B5:=zh (B4.trans (b4.mono B4.size));clear b4 B4 aA;go_wp2_with fail;go_ret;exact⟨rfl,B5.o⟩
abbrev Vj:ByteArray:=⟨#[115,105,103,110]⟩
def Oy(p r:Int)(m:List UInt8):Nat:=RF Vj.data.toList m [r,p]
theorem WW(w:World)(a b:Int):ag (w.alloc (.cells #[.int .i64 a,.int .i64 b] 3)) w.heap.size 3 [a,b].length (fun i=>.int .i64 ([a,b].getD i 0)):=ag.new w 3 2 (fun i=>.int .i64 ([a,b].getD i 0))
def YJ:gJ:=sU [0,2,3,5,6] (.two 1 9 (.two 4 9 (.two 7 9 (.fl 8 (.one 9 .done)) (.one 7 (.fl 8 .done))) (.one 4 (.one 7 (.fl 8 .done)))) (.one 1 (.one 4 (.one 7 (.fl 8 .done)))))
def dP(a b c:Int):Nat→Value:=fun i=>if i=0 then .int .i64 a else if i=1 then .int .i64 b else .int .i64 c
theorem JL(a:Int):chk a=0∨chk a=40:=chk_01 a
theorem Ql(a:Int):rC a=0∨rC a=1:=by unfold rC;cases gq a<;>simp
theorem NQ(W:World):(binOp .neq 262 (.agg (ah 3 (dP 0 0 0))) (.agg (ah 3 (dP 0 0 0)))).run Tryz.prog W=.ok (.bool false) W:=by kernel_rfl
theorem MH(a b c:Int)(ha:a=0∨a=40)(hb:b=0∨b=40)(hc:c=0∨c=1)(h:¬(a=0∧b=0∧c=0))(W:World):
 (binOp .neq 262 (.agg (ah 3 (dP a b c))) (.agg (ah 3 (dP 0 0 0)))).run Tryz.prog W=.ok (.bool true) W:=by
 rcases ha with rfl | rfl<;>rcases hb with rfl | rfl<;>rcases hc with rfl | rfl<;>first | (exact absurd ⟨rfl,rfl,rfl⟩ h) | kernel_rfl
theorem Qr(x y:Operand)(a b c:Int)(W:World):(eqGuard .neq 262 x y (.agg (ah 3 (dP a b c))) (.agg (ah 3 (dP 0 0 0)))).run Tryz.prog W=.ok () W:=run_eqGuard_agg W .neq _ x y _ _ (by kernel_rfl)
def Je(p:Int)(m:List UInt8)(r s:Int):Bool:=aU p&&aU r&&gq s&&decide (oL 4 s=Dx r (oL p (Oy p r m)))
theorem ver_ok{p r s:Int}(m:List UInt8)(h:chk p=0∧chk r=0∧rC s=0):Je p m r s=decide (oL 4 s=Dx r (oL p (Oy p r m))):=by
 unfold Je;unfold chk rC at h;cases hp:aU p<;>cases hr:aU r<;>cases hs:gq s<;>simp_all
theorem ver_no{p r s:Int}(m:List UInt8)(h:¬(chk p=0∧chk r=0∧rC s=0)):Je p m r s=false:=by
 unfold Je;unfold chk rC at h;cases hp:aU p<;>cases hr:aU r<;>cases hs:gq s<;>simp_all
theorem nU{a b c:Int}:∀j,j < 3→(dP a b c j).oneCell'=true:=by intro j _;unfold dP;split;rfl;split<;>rfl
theorem Gm(p r s:Int)(v:Value)(m:List UInt8)(w:World)(hm:m.length≤1000)(hv:BytesAt w v m)(hT:Tab w):
 Calls Tryz.prog 105 #[.int .i64 p,v,.agg #[.int .i64 r,.int .i64 s]] w (zr (.bool (Je p m r s)) w):=by
 have aJ:=ver_ok (p:=p) (r:=r) (s:=s) m;have aK:=ver_no (p:=p) (r:=r) (s:=s) m;obtain⟨ans,af⟩:=zg (Je p m r s);have q1:=JL p;have q2:=JL r;have q3:=Ql s;have C1:=fun W=>check_any p W;have C2:=fun W=>check_any r W;have C3:=fun W=>JA s W;obtain⟨k1,aN⟩:=zg (chk p);obtain⟨k2,aO⟩:=zg (chk r);obtain⟨k3,aP⟩:=zg (rC s);rw[aN]at C1 q1;rw[aO]at C2 q2;rw[aP]at C3 q3;rw[aN,aO,aP,af]at aJ aK;rw[af];obtain⟨va,vc,rfl⟩:=hv.slice;have Hv:=zh hv;have HT:=zh hT;have Hm:=zh hm;have aQ:=zh aJ;have Hno:=zh aK;have Q1:=zh q1;have Q2:=zh q2;have Q3:=zh q3;clear hv hT hm aJ aK aN aO aP af q1 q2 q3;have H1:=zh C1;have H2:=zh C2;have H3:=zh C3;clear C1 C2 C3;have R0:=zh (ag.new w 59 2 (fun i=>if i=0 then .int .i64 r else .int .i64 s));go_in;go_upto_region 1 with fail;obtain⟨w1,ay⟩:=zg (w.alloc (.cells #[.int .i64 r,.int .i64 s] 59));have B1:Hid (Below w.heap.size w w1):=zh (by rw[←ay];exact(Yb _ _).alloc (Ya _) _)
 have R1:ag w1 w.heap.size 59 2 (fun i=>if i=0 then .int .i64 r else .int .i64 s):=(by rw[←ay];exact R0.o);rw[ay];clear ay R0;obtain⟨bs,aS⟩:=zg w.heap.size;have bD:=zh aS;rw[aS]at R1 B1 ⊢;clear aS;go_cut [7] (fun s7 wx=>∃b:Nat,s7=.pointer (some ⟨b,0,none⟩)∧bs < b∧ag wx b 262 3 (dP k1 k2 k3)∧Below w1.heap.size w1 wx)
 case first =>
  have x0:=R1.cell (i:=0) (by decide);have x1:=R1.cell (i:=1) (by decide);refine aA 10 YJ (by kernel_rfl) (by kernel_rfl) ?_;intro w2 b2 e2;clear e2;have B2:=zh b2;have az:=zh R1.lt;have y0:=R1.below b2|>.cell (i:=0) (by decide);have y1:=R1.below b2|>.cell (i:=1) (by decide);have z0:=fun d os=>cell_regrown y0 d os;have z1:=fun d os=>cell_regrown y1 d os;clear b2 x0 x1 y0 y1;unfold YJ;refine aj [0,2,3,5,6] [_,_,_,_,_] rfl ?_;dsimp only[zx,zy,zz];(repeat(go_big_quiet_step (fail)));refine wpQuiet_nil ?_;refine fK 1 9 rfl rfl (fun K hK=>?_) (fun K hK=>?_)
  · skip;go_wp2_with fail;refine(H1.o _).mono ?_;rintro e w3 ⟨rfl,b3⟩;go_wp2_with fail;refine hK _ _ b3 ?_;have B3:=zD B2 b3;clear b3 hK K;refine fK 4 9 rfl rfl (fun K hK=>?_) (fun K hK=>?_)
    · skip;go_wp2_with fail;refine(H2.o _).mono ?_;rintro e w4 ⟨rfl,b4⟩;go_wp2_with fail;refine hK _ _ b4 ?_;have B4:=zD B3 b4;clear b4 hK K;refine fK 7 9 rfl rfl (fun K hK=>?_) (fun K hK=>?_)
      · skip;go_wp2_with fail;refine(H3.o _).mono ?_;rintro e w5 ⟨rfl,b5⟩;go_wp2_with fail;refine hK _ _ b5 ?_;have B5:=zD B4 b5;clear b5 hK K;refine aj [8] [_] rfl ?_;dsimp only[zx,zy,zz];(repeat(go_big_quiet_step (fail)));refine wpQuiet_nil ?_;refine ae 9 rfl (fun K hK=>?_);go_wp2_with fail;have R6:=zh (ag.new w5 262 3 (dP 0 0 0));have b6:Below w5.heap.size w5 (w5.alloc (.cells (ah 3 (dP 0 0 0)) 262)):=(Yb _ _).alloc (Ya _) _;refine hK _ (w5.alloc (.cells (ah 3 (dP 0 0 0)) 262)) b6 ?_;have B6:=zD B5 b6;have l6:=zh (Yg az.o B5.size);have g6:=zh B5.size;obtain⟨w6,aT⟩:=zg (w5.alloc (.cells (ah 3 (dP 0 0 0)) 262));obtain⟨p6,aU⟩:=zg w5.heap.size;rw[aT,aU]at R6;rw[aT]at B6 ⊢;rw[aU]at l6 g6 ⊢;clear aT aU b6 hK K;refine aF (l:=[_]) rfl (fun K hK=>?_);go_wp2_with(refine zV R6 rfl (dP k1 k2 k3) rfl Zg nU ?_;intro wz Rz Oz);go_meet;exact⟨p6,rfl,l6.o,Rz.o,B6.trans (Oz.below g6.o B6.size)⟩
      · skip;go_wp2_with fail;have R7:=zh (ag.new w4 262 3 (dP 0 0 0));have b7:Below w4.heap.size w4 (w4.alloc (.cells (ah 3 (dP 0 0 0)) 262)):=(Yb _ _).alloc (Ya _) _;refine hK _ (w4.alloc (.cells (ah 3 (dP 0 0 0)) 262)) b7 ?_;have B7:=zD B4 b7;have l7:=zh (Yg az.o B4.size);have g7:=zh B4.size;obtain⟨w7,aV⟩:=zg (w4.alloc (.cells (ah 3 (dP 0 0 0)) 262));obtain⟨p7,aW⟩:=zg w4.heap.size;rw[aV,aW]at R7;rw[aV]at B7 ⊢;rw[aW]at l7 g7 ⊢;clear aV aW b7 hK K;refine ae 7 rfl (fun K hK=>?_);go_wp2_with fail;refine(H3.o _).mono ?_;rintro e w8 ⟨rfl,b8⟩;go_wp2_with fail;refine hK _ _ b8 ?_;have B8:=zD B7 b8;have R8:=zh (R7.below b8);clear b8 hK K;refine aj [8] [_] rfl ?_;dsimp only[zx,zy,zz];(repeat(go_big_quiet_step (fail)));refine wpQuiet_nil ?_;refine aF (l:=[_]) rfl (fun K hK=>?_);go_wp2_with(refine zV R8 rfl (dP k1 k2 k3) rfl Zg nU ?_;intro wz Rz Oz);go_meet
        exact⟨p7,rfl,l7.o,Rz.o,B8.trans (Oz.below g7.o B8.size)⟩
    · skip;go_wp2_with fail;have R9:=zh (ag.new w3 262 3 (dP 0 0 0));have b9:Below w3.heap.size w3 (w3.alloc (.cells (ah 3 (dP 0 0 0)) 262)):=(Yb _ _).alloc (Ya _) _;refine hK _ (w3.alloc (.cells (ah 3 (dP 0 0 0)) 262)) b9 ?_;have B9:=zD B3 b9;have l9:=zh (Yg az.o B3.size);have g9:=zh B3.size;obtain⟨w9,aX⟩:=zg (w3.alloc (.cells (ah 3 (dP 0 0 0)) 262));obtain⟨p9,aY⟩:=zg w3.heap.size;rw[aX,aY]at R9;rw[aX]at B9 ⊢;rw[aY]at l9 g9 ⊢;clear aX aY b9 hK K;refine ae 4 rfl (fun K hK=>?_);go_wp2_with fail;refine(H2.o _).mono ?_;rintro e dC ⟨rfl,aB⟩;go_wp2_with fail;refine hK _ _ aB ?_;have bV:=zD B9 aB;have bW:=zh (R9.below aB);clear aB hK K;refine ae 7 rfl (fun K hK=>?_);go_wp2_with fail;refine(H3.o _).mono ?_;rintro e dD ⟨rfl,aC⟩;go_wp2_with fail;refine hK _ _ aC ?_;have bF:=zD bV aC;have bY:=zh (bW.below aC);clear aC hK K;refine aj [8] [_] rfl ?_;dsimp only[zx,zy,zz]
      (repeat(go_big_quiet_step (fail)));refine wpQuiet_nil ?_;refine aF (l:=[_]) rfl (fun K hK=>?_);go_wp2_with(refine zV bY rfl (dP k1 k2 k3) rfl Zg nU ?_;intro wz Rz Oz);go_meet;exact⟨p9,rfl,l9.o,Rz.o,bF.trans (Oz.below g9.o bF.size)⟩
  · skip;go_wp2_with fail;have bG:=zh (ag.new w2 262 3 (dP 0 0 0));have aZ:Below w2.heap.size w2 (w2.alloc (.cells (ah 3 (dP 0 0 0)) 262)):=(Yb _ _).alloc (Ya _) _;refine hK _ (w2.alloc (.cells (ah 3 (dP 0 0 0)) 262)) aZ ?_;have bH:=zD B2 aZ;have bI:=zh (Yg az.o B2.size);have bJ:=zh B2.size;obtain⟨dE,ai⟩:=zg (w2.alloc (.cells (ah 3 (dP 0 0 0)) 262));obtain⟨bZ,ak⟩:=zg w2.heap.size;rw[ai,ak]at bG;rw[ai]at bH ⊢;rw[ak]at bI bJ ⊢;clear ai ak aZ hK K;refine ae 1 rfl (fun K hK=>?_);go_wp2_with fail;refine(H1.o _).mono ?_;rintro e dF ⟨rfl,aG⟩;go_wp2_with fail;refine hK _ _ aG ?_;have cu:=zD bH aG;have cO:=zh (bG.below aG);clear aG hK K;refine ae 4 rfl (fun K hK=>?_);go_wp2_with fail;refine(H2.o _).mono ?_;rintro e dG ⟨rfl,aH⟩;go_wp2_with fail;refine hK _ _ aH ?_;have cZ:=zD cu aH;have df:=zh (cO.below aH);clear aH hK K;refine ae 7 rfl (fun K hK=>?_);go_wp2_with fail;refine(H3.o _).mono ?_
    rintro e dH ⟨rfl,aI⟩;go_wp2_with fail;refine hK _ _ aI ?_;have bK:=zD cZ aI;have dh:=zh (df.below aI);clear aI hK K;refine aj [8] [_] rfl ?_;dsimp only[zx,zy,zz];(repeat(go_big_quiet_step (fail)));refine wpQuiet_nil ?_;refine aF (l:=[_]) rfl (fun K hK=>?_);go_wp2_with(refine zV dh rfl (dP k1 k2 k3) rfl Zg nU ?_;intro wz Rz Oz);go_meet;exact⟨bZ,rfl,bI.o,Rz.o,bK.trans (Oz.below bJ.o bK.size)⟩
 case rest=>
  obtain⟨b,rfl,hb,Rb,Bx⟩:=hcut;have RB:=zh Rb;have BX:=zh (show Below w.heap.size w wc by rw[bD.o];exact B1.trans (Bx.mono (by rw[←bD.o];exact B1.size)));have RS:=zh (ag.below R1 Bx);clear Rb Bx hb R1 B1 H1 H2 H3;by_cases hz:k1=0∧k2=0∧k3=0
  · have e0:=aQ.o hz;obtain⟨rfl,rfl,rfl⟩:=hz;have bf:∀W,(binOp .neq 262 (.agg (ah 3 (dP 0 0 0))) (.agg #[.int .i64 0,.int .i64 0,.int .i64 0])).run Tryz.prog W=.ok (.bool false) W:=NQ;have bg:∀x y W,(eqGuard .neq 262 x y (.agg (ah 3 (dP 0 0 0))) (.agg #[.int .i64 0,.int .i64 0,.int .i64 0])).run Tryz.prog W=.ok () W:=fun x y W=>Qr x y 0 0 0 W;obtain⟨V3,au⟩:=zg (ah 3 (dP 0 0 0));rw[au]at bf bg;have G1:=fun W=>Oj s W;have G2:=fun W=>Fz p ((Oy p r m:Nat):Int) W;have G3:=fun W=>QY r (oL p ((Oy p r m:Nat):Int)) W;obtain⟨v1,bn⟩:=zg (oL 4 s);obtain⟨v2,bu⟩:=zg (oL p ((Oy p r m:Nat):Int));obtain⟨v3,bz⟩:=zg (Dx r v2);rw[bn]at G1;rw[bu]at G2 G3;rw[bz]at G3;rw[bn,bu,bz]at e0;obtain⟨ck,bC⟩:=zg (Oy p r m);rw[bC]at G2;have di:=zh bC;obtain⟨f1,bM⟩:=zg (Eu 4 s);obtain⟨f2,bP⟩:=zg (Eu p (ck:Int));obtain⟨f3,bQ⟩:=zg (QW r v2);rw[bM]at G1;rw[bP]at G2;rw[bQ]at G3;have J1:=zh G1;have J2:=zh G2;have J3:=zh G3
    have x1:=RS.cell (i:=1) (by decide);clear Hno aQ Q1 Q2 Q3 bn bu bz bC bM bP bQ G1 G2 G3;subst e0;go_wp2_with((with_reducible (show wpList _ _ _ (Oper.mk (some 23) _ _ _ _ _::_) _ _));refine zL RB rfl Zg ?_;rw[au]);refine(J1.o _).mono ?_;rintro e y1 ⟨rfl,c1⟩;have bT:=zD BX c1;have bU:=zh (RS.below c1);have x0:=bU.cell (i:=0) (by decide);clear c1 x1;go_wp2_with fail;have al:=(Yb _ y1).alloc (Ya _) (.cells #[.int .i64 r,.int .i64 p] 3);have ax:=bT.trans (al.mono bT.size);refine(Qy Vj _ m y1.heap.size 2 [r,p] _ (by decide) Hm.o (Hv.below ax) (HT.below ax) (WW y1 r p) (by simp)).mono ?_;rintro e y2 ⟨rfl,c2⟩;have dm:=zh (ax.trans (c2.mono ax.size));have dn:=zh ((bU.alloc (.cells #[.int .i64 r,.int .i64 p] 3)).below c2);rw[show RF Vj.data.toList m [r,p]=ck from di.o];clear al ax c2 x0;go_wp2_with fail;refine(J2.o _).mono ?_;rintro e y3 ⟨rfl,c3⟩;have dw:=zD dm c3;have dA:=zh (dn.below c3)
    have x0:=dA.cell (i:=0) (by decide);clear c3;go_wp2_with fail;refine(J3.o _).mono ?_;rintro e y4 ⟨rfl,c4⟩;have dB:=zD dw c4;clear c4;go_wp2_with fail;go_ret;exact⟨rfl,dB.o⟩
  · have e0:=Hno.o hz;have bf:∀W,(binOp .neq 262 (.agg (ah 3 (dP k1 k2 k3))) (.agg #[.int .i64 0,.int .i64 0,.int .i64 0])).run Tryz.prog W=.ok (.bool true) W:=MH k1 k2 k3 Q1.o Q2.o Q3.o hz;have bg:∀x y W,(eqGuard .neq 262 x y (.agg (ah 3 (dP k1 k2 k3))) (.agg #[.int .i64 0,.int .i64 0,.int .i64 0])).run Tryz.prog W=.ok () W:=fun x y W=>Qr x y k1 k2 k3 W;obtain⟨V3,au⟩:=zg (ah 3 (dP k1 k2 k3));rw[au]at bf bg;clear hz Hno aQ Q1 Q2 Q3;subst e0;go_wp2_with((with_reducible (show wpList _ _ _ (Oper.mk (some 23) _ _ _ _ _::_) _ _));refine zL RB rfl Zg ?_;rw[au]);go_ret;exact⟨rfl,BX.o⟩
end Go.Proofs.YtfddbnmfllgifaaGreatDoor
