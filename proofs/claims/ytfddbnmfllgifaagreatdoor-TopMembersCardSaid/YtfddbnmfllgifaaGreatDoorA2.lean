/- Part of TopMembers. -/
import Derived.Test.YtfddbnmfllgifaaGreatDoorA3
import Derived.Test.YtfddbnmfllgifaaGreatDoorA1
import Derived.BigQuiet
set_option linter.unusedVariables false
set_option linter.unusedSimpArgs false
set_option maxHeartbeats 64000000
namespace Go.Proofs.YtfddbnmfllgifaaGreatDoor
open Go.RowKit
open Sha (rr Wd wI)
section
variable {P:Program}{f:FuncId}{args:Array Value}{w:World}{a n:Nat}{v:Value}
theorem yz(h:Calls P f args (w.drewN n) fun e w'=>e=.returned v∧w.drewN n=w'):Calls P f args (w.drewN n) fun e w''=>e=.returned v∧∃m,w''=w.drewN m:=
 h.mono fun _ _ ⟨he,hm⟩=>⟨he,n,hm.symm⟩
theorem qsame2(h:Calls P f args (w.drewN (a+n)) fun e w'=>e=.returned v∧w.drewN (a+n)=w'):Calls P f args (w.drewN (a+n)) fun e w''=>e=.returned v∧∃m,w''=w.drewN (a+m):=
 h.mono fun _ _ ⟨he,hm⟩=>⟨he,n,hm.symm⟩
end
abbrev vU(x:BitVec 32):Value:=.int .u32 (U x)
def ext(c:UInt8):Wd:=BitVec.ofNat 32 c.toNat
theorem ext_is(c:UInt8):((c.toNat:Nat):Int)=U (ext c):=by
 unfold U ext;rw[BitVec.toNat_ofNat,Nat.mod_eq_of_lt (by have :=c.toNat_lt;omega)]
theorem mod_U(x:Wd):U x % 4294967296=U x:=by have :=U_lt x;omega
theorem or_zero(x:Wd):bits .or .u32 0 (U x)=U x:=by
 have h:=qX 0 x;rw[show U (0:Wd)=0 from rfl,show(0:Wd)||| x=x from BitVec.zero_or]at h;exact h
theorem Bf(n:Nat)(c:UInt8)(hn:n < 16777216):BitVec.ofNat 32 n <<< 8||| ext c=BitVec.ofNat 32 (n*256+c.toNat):=by
 have hc:=c.toNat_lt;apply BitVec.eq_of_toNat_eq;unfold ext;rw[BitVec.toNat_or,BitVec.toNat_shiftLeft,BitVec.toNat_ofNat,BitVec.toNat_ofNat,BitVec.toNat_ofNat,Nat.mod_eq_of_lt (a:=n) (by omega),Nat.mod_eq_of_lt (a:=c.toNat) (by omega),Nat.mod_eq_of_lt (a:=n*256+c.toNat) (by omega),Nat.shiftLeft_eq,Nat.mod_eq_of_lt (by omega),←Nat.shiftLeft_eq,←Nat.shiftLeft_add_eq_or_of_lt (by omega),Nat.shiftLeft_eq]
theorem Vy(a b c d:UInt8):((ext a <<< 8||| ext b) <<< 8||| ext c) <<< 8||| ext d=wI a b c d:=by
 have ha:=a.toNat_lt;have hb:=b.toNat_lt;have hc:=c.toNat_lt;rw[show ext a=BitVec.ofNat 32 a.toNat from rfl,Bf _ b (by omega),Bf _ c (by omega),Bf _ d (by omega)];rfl
theorem rot2(x:BitVec 32)(w:World):
 Calls Tryz.prog 204 #[vU x,.int .i64 (-2)] w fun e w'=>e=.returned (vU (rr x 2))∧w=w':=by
 have a1:=fun y z=>qX y z;have a2:IntKind.u32.wrap (U x*1073741824)=U (x <<< 30):=nJ x 30;have a3:U x / (4:Int)=U (x >>> 2):=lX x 2;have a4:bits .and .u64 (IntKind.u64.wrap (-2)) 31=30:=(by kernel_rfl);rw[show rr x 2=x <<< 30||| x >>> 2 from BitVec.or_comm _ _];go_in;go_wp2;go_ret;exact⟨rfl,rfl⟩
theorem rot6(x:BitVec 32)(w:World):
 Calls Tryz.prog 204 #[vU x,.int .i64 (-6)] w fun e w'=>e=.returned (vU (rr x 6))∧w=w':=by
 have a1:=fun y z=>qX y z;have a2:IntKind.u32.wrap (U x*67108864)=U (x <<< 26):=nJ x 26;have a3:U x / (64:Int)=U (x >>> 6):=lX x 6;have a4:bits .and .u64 (IntKind.u64.wrap (-6)) 31=26:=(by kernel_rfl);rw[show rr x 6=x <<< 26||| x >>> 6 from BitVec.or_comm _ _];go_in;go_wp2;go_ret;exact⟨rfl,rfl⟩
theorem rot7(x:BitVec 32)(w:World):
 Calls Tryz.prog 204 #[vU x,.int .i64 (-7)] w fun e w'=>e=.returned (vU (rr x 7))∧w=w':=by
 have a1:=fun y z=>qX y z;have a2:IntKind.u32.wrap (U x*33554432)=U (x <<< 25):=nJ x 25;have a3:U x / (128:Int)=U (x >>> 7):=lX x 7;have a4:bits .and .u64 (IntKind.u64.wrap (-7)) 31=25:=(by kernel_rfl);rw[show rr x 7=x <<< 25||| x >>> 7 from BitVec.or_comm _ _];go_in;go_wp2;go_ret;exact⟨rfl,rfl⟩
theorem rot11(x:BitVec 32)(w:World):
 Calls Tryz.prog 204 #[vU x,.int .i64 (-11)] w fun e w'=>e=.returned (vU (rr x 11))∧w=w':=by
 have a1:=fun y z=>qX y z;have a2:IntKind.u32.wrap (U x*2097152)=U (x <<< 21):=nJ x 21;have a3:U x / (2048:Int)=U (x >>> 11):=lX x 11;have a4:bits .and .u64 (IntKind.u64.wrap (-11)) 31=21:=(by kernel_rfl);rw[show rr x 11=x <<< 21||| x >>> 11 from BitVec.or_comm _ _];go_in;go_wp2;go_ret;exact⟨rfl,rfl⟩
theorem rot13(x:BitVec 32)(w:World):
 Calls Tryz.prog 204 #[vU x,.int .i64 (-13)] w fun e w'=>e=.returned (vU (rr x 13))∧w=w':=by
 have a1:=fun y z=>qX y z;have a2:IntKind.u32.wrap (U x*524288)=U (x <<< 19):=nJ x 19;have a3:U x / (8192:Int)=U (x >>> 13):=lX x 13;have a4:bits .and .u64 (IntKind.u64.wrap (-13)) 31=19:=(by kernel_rfl);rw[show rr x 13=x <<< 19||| x >>> 13 from BitVec.or_comm _ _];go_in;go_wp2;go_ret;exact⟨rfl,rfl⟩
theorem rot17(x:BitVec 32)(w:World):
 Calls Tryz.prog 204 #[vU x,.int .i64 (-17)] w fun e w'=>e=.returned (vU (rr x 17))∧w=w':=by
 have a1:=fun y z=>qX y z;have a2:IntKind.u32.wrap (U x*32768)=U (x <<< 15):=nJ x 15;have a3:U x / (131072:Int)=U (x >>> 17):=lX x 17;have a4:bits .and .u64 (IntKind.u64.wrap (-17)) 31=15:=(by kernel_rfl);rw[show rr x 17=x <<< 15||| x >>> 17 from BitVec.or_comm _ _];go_in;go_wp2;go_ret;exact⟨rfl,rfl⟩
theorem rot18(x:BitVec 32)(w:World):
 Calls Tryz.prog 204 #[vU x,.int .i64 (-18)] w fun e w'=>e=.returned (vU (rr x 18))∧w=w':=by
 have a1:=fun y z=>qX y z;have a2:IntKind.u32.wrap (U x*16384)=U (x <<< 14):=nJ x 14;have a3:U x / (262144:Int)=U (x >>> 18):=lX x 18;have a4:bits .and .u64 (IntKind.u64.wrap (-18)) 31=14:=(by kernel_rfl);rw[show rr x 18=x <<< 14||| x >>> 18 from BitVec.or_comm _ _];go_in;go_wp2;go_ret;exact⟨rfl,rfl⟩
theorem rot19(x:BitVec 32)(w:World):
 Calls Tryz.prog 204 #[vU x,.int .i64 (-19)] w fun e w'=>e=.returned (vU (rr x 19))∧w=w':=by
 have a1:=fun y z=>qX y z;have a2:IntKind.u32.wrap (U x*8192)=U (x <<< 13):=nJ x 13;have a3:U x / (524288:Int)=U (x >>> 19):=lX x 19;have a4:bits .and .u64 (IntKind.u64.wrap (-19)) 31=13:=(by kernel_rfl);rw[show rr x 19=x <<< 13||| x >>> 19 from BitVec.or_comm _ _];go_in;go_wp2;go_ret;exact⟨rfl,rfl⟩
theorem rot22(x:BitVec 32)(w:World):
 Calls Tryz.prog 204 #[vU x,.int .i64 (-22)] w fun e w'=>e=.returned (vU (rr x 22))∧w=w':=by
 have a1:=fun y z=>qX y z;have a2:IntKind.u32.wrap (U x*1024)=U (x <<< 10):=nJ x 10;have a3:U x / (4194304:Int)=U (x >>> 22):=lX x 22;have a4:bits .and .u64 (IntKind.u64.wrap (-22)) 31=10:=(by kernel_rfl);rw[show rr x 22=x <<< 10||| x >>> 22 from BitVec.or_comm _ _];go_in;go_wp2;go_ret;exact⟨rfl,rfl⟩
theorem rot25(x:BitVec 32)(w:World):
 Calls Tryz.prog 204 #[vU x,.int .i64 (-25)] w fun e w'=>e=.returned (vU (rr x 25))∧w=w':=by
 have a1:=fun y z=>qX y z;have a2:IntKind.u32.wrap (U x*128)=U (x <<< 7):=nJ x 7;have a3:U x / (33554432:Int)=U (x >>> 25):=lX x 25;have a4:bits .and .u64 (IntKind.u64.wrap (-25)) 31=7:=(by kernel_rfl);rw[show rr x 25=x <<< 7||| x >>> 25 from BitVec.or_comm _ _];go_in;go_wp2;go_ret;exact⟨rfl,rfl⟩
theorem Rf(x:BitVec 32)(w:World):
 Calls Tryz.prog 205 #[vU x,.int .i64 6,.int .i64 11,.int .i64 25] w fun e w'=>e=.returned (vU (Sha.S1 x))∧w=w':=by
 have a1:=fun y z=>JS y z;go_in;go_wp2_with fail;refine(rot6 x _).mono ?_;rintro e w' ⟨rfl,rfl⟩;go_wp2_with fail;refine(rot11 x _).mono ?_;rintro e w' ⟨rfl,rfl⟩;go_wp2_with fail;refine(rot25 x _).mono ?_;rintro e w' ⟨rfl,rfl⟩;go_wp2_with fail;go_ret;exact⟨rfl,rfl⟩
theorem RH(x:BitVec 32)(w:World):
 Calls Tryz.prog 205 #[vU x,.int .i64 2,.int .i64 13,.int .i64 22] w fun e w'=>e=.returned (vU (Sha.S0 x))∧w=w':=by
 have a1:=fun y z=>JS y z;go_in;go_wp2_with fail;refine(rot2 x _).mono ?_;rintro e w' ⟨rfl,rfl⟩;go_wp2_with fail;refine(rot13 x _).mono ?_;rintro e w' ⟨rfl,rfl⟩;go_wp2_with fail;refine(rot22 x _).mono ?_;rintro e w' ⟨rfl,rfl⟩;go_wp2_with fail;go_ret;exact⟨rfl,rfl⟩
def Four(w:World)(b off:Nat)(c:Nat→UInt8):Prop:=∀j,j < 4→w.cell? ⟨b,off+j,none⟩=some (vB (c j))
theorem TD(b off len cap:Nat)(c:Nat→UInt8)(w:World)(ae:4≤cap)(hm:(cap:Int)≤9223372036854775807)(h:Four w b off c):
 Calls Tryz.prog 203 #[.slice (some ⟨b,off,none⟩) len cap] w fun e w'=>e=.returned (vU (wI (c 0) (c 1) (c 2) (c 3)))∧w=w':=by
 have h0:=h 0 (by omega);have h1:=h 1 (by omega);have h2:=h 2 (by omega);have h3:=h 3 (by omega);rw[Nat.add_zero]at h0;rw[←Vy];have a0:=fun y=>or_zero y;have a1:=fun y z=>qX y z;have a2:∀x:Wd,IntKind.u32.wrap (U x*256)=U (x <<< 8):=fun x=>nJ x 8;have a3:=fun y=>mod_U y;obtain⟨c0,e0⟩:=zg (c 0);obtain⟨c1,e1⟩:=zg (c 1);obtain⟨c2,e2⟩:=zg (c 2);obtain⟨c3,e3⟩:=zg (c 3);rw[e0]at h0 ⊢;rw[e1]at h1 ⊢;rw[e2]at h2 ⊢;rw[e3]at h3 ⊢;simp only[vB,ext_is]at h0 h1 h2 h3;have H:Hid (Four w b off c):=zh h;clear h e0 e1 e2 e3 H;go_in;go_wp2_with fail;refine wp_loop_rounds 5 ?_;rw[rounds_succ];go_wp2_with fail;rw[rounds_succ];go_wp2_with fail;rw[rounds_succ];go_wp2_with fail;rw[rounds_succ];go_wp2_with fail;rw[rounds_succ];go_wp2_with fail;go_ret;exact⟨rfl,rfl⟩
end Go.Proofs.YtfddbnmfllgifaaGreatDoor
