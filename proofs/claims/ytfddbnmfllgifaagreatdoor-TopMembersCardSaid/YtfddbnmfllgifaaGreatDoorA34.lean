/- Part of TopMembers. -/
import Derived.Test.YtfddbnmfllgifaaGreatDoorA16
import Derived.Test.YtfddbnmfllgifaaGreatDoorA3
set_option linter.unusedVariables false
set_option linter.unusedSimpArgs false
set_option maxHeartbeats 64000000
set_option maxRecDepth 100000
namespace Go.Proofs.YtfddbnmfllgifaaGreatDoor
open Go.RowKit
theorem aW{P:Program}{fn:Func}{p u:Tmp}{ty:TypeId}(h:fn.results= #[.cell p ty,.tmp u])(tmps:Array Value)(w:World)(g N:Nat)(T:TypeId)(f:Nat→Value)(d:TypeDesc)
 (hp:tmps.getD p undef=.pointer (some ⟨g,0,none⟩)) (ae:ag w g T N f)
 (hu:P.underlying ty=some d) (hd:(match d with | .struct _ | .array _ _=>true | _=>false)=true) (hi:(P.info? ty).map (·.size)=some N):
 (results fn tmps).run P w=.ok (.tuple #[.agg (ah N f),tmps.getD u undef]) w:=by
 rw[results_cell_tmp h,hp];simp[asAddr,run_loadVar_row w g T ty (ah N f) (0,0) d ae hu hd (by rw[bz];exact hi)]
theorem aX{P:Program}{ops:Array Oper}{Q:Exit→Act→World→Prop}{a:Act}{w:World}{rest:List Oper}{o:Oper}(hw:Region.wanted o (yielded ops a.tmps)=true)
 (h:wpList P ops Q ({o with guard:=none}::rest) a w):wpList P ops Q (o::rest) a w:=by
 unfold wpList at h ⊢;rw[if_pos hw];rw[if_pos (show Region.wanted {o with guard:=none} (yielded ops a.tmps)=true from rfl)]at h;exact h
theorem zb{P:Program}{fn:Func}{p u:Tmp}{ty:TypeId}{tmps:Array Value}{w:World}{g N:Nat}{T:TypeId}{f:Nat→Value}(hr:Hid (ag w g T N f))(h:fn.results= #[.cell p ty,.tmp u])(hp:tmps.getD p undef=.pointer (some ⟨g,0,none⟩))(U:zR P ty N):(results fn tmps).run P w=.ok (.tuple #[.agg (ah N f),tmps.getD u undef]) w:=by
 obtain⟨d,hu,hd,hi⟩:=U
 exact aW h tmps w g N T f d hp hr hu (by cases d<;>exact hd) hi
end Go.Proofs.YtfddbnmfllgifaaGreatDoor
namespace Go.Proofs.YtfddbnmfllgifaaGreatDoor
open Go.RowKit Top
def dS(d:Int):Bool:=decide (0≤d)&&decide (d < 512)
theorem jT(d:Int):dS d=true↔fM d:=by unfold dS fM;simp only[Bool.and_eq_true,decide_eq_true_eq]
def kC(d:Int):Int:=if dS d then 512+d else 0
def kS(d:Int):Int:=if dS d then 0 else 200
theorem wQ(d:Int)(w:World):Calls Tryz.prog 97 #[.int .i64 d] w fun e w'=>e=.returned (.tuple #[.int .i64 (kC d),.int .i64 (kS d)])∧w=w':=by
 have hv:dS d=(!decide (d < 0)&& !decide (512≤d)):=(by unfold dS;by_cases h1:d < 0<;>by_cases h2:512≤d<;>simp[h1,h2]<;>omega);have LV:Hid (kC d=if dS d then 512+d else 0):=zh rfl;have LE:Hid (kS d=if dS d then 0 else 200):=zh rfl;obtain⟨u,hu⟩:=zg (kC d);obtain⟨e0,he⟩:=zg (kS d);rw[hv,hu]at LV;rw[hv,he]at LE;rw[hu,he];have wr:d < 512→0≤d→IntKind.i64.wrap (512+d)=512+d:=fun h1 h2=>IntWalk.i64_in _ (by omega);have WR:=zh wr;clear hv hu he wr;go_in;cases n0:decide (d < 0)
 · cases n1:decide (512≤d)
   · have w1:=WR.o (by have :=of_decide_eq_false n1;omega) (by have :=of_decide_eq_false n0;omega);obtain rfl:u=512+d:=(by rw[LV.o,n0,n1];rfl);obtain rfl:e0=0:=(by rw[LE.o,n0,n1];rfl);clear LV LE WR;go_wp2_with fail;go_ret2;exact⟨rfl,rfl⟩
   · obtain rfl:u=0:=(by rw[LV.o,n0,n1];rfl);obtain rfl:e0=200:=(by rw[LE.o,n0,n1];rfl);clear LV LE WR;go_wp2_with fail;go_ret2;exact⟨rfl,rfl⟩
 · obtain rfl:u=0:=(by rw[LV.o,n0];rfl);obtain rfl:e0=200:=(by rw[LE.o,n0];rfl);clear LV LE WR;go_wp2_with fail;go_ret2;exact⟨rfl,rfl⟩
theorem Jn(n:Nat)(hn:n < 2048)(w:World):Calls Tryz.prog 243 #[.int .i64 (n:Int)] w fun e w'=>e=.returned (.int .i64 ((n / 2:Nat):Int))∧w=w':=by
 have h1:IntKind.i64.wrap ((n:Int).tdiv 2)=((n / 2:Nat):Int):=(by rw[Int.tdiv_eq_ediv_of_nonneg (by omega)];exact(IntWalk.i64_in _ (by omega)).trans (by omega));obtain⟨m,hm⟩:∃y:Int,((n / 2:Nat):Int)=y:=⟨_,rfl⟩;obtain⟨k,hk⟩:∃y:Int,(n:Int)=y:=⟨_,rfl⟩;rw[hm,hk]at h1;rw[hm,hk];clear hm hk hn;go_in;go_wp2_with fail;go_ret;exact⟨rfl,rfl⟩
def Oq(n:Nat):Nat:=if n % 2=0 then n+1 else n - 1
theorem xor1(n:Nat)(hn:n < 2048):bits .xor .i64 (n:Int) 1=((Oq n:Nat):Int):=by
 have h1:(BitVec.ofInt 64 1).toNat=1:=(by decide);have h2:(BitVec.ofInt 64 (n:Int)).toNat=n:=(by rw[BitVec.toNat_ofInt];omega);show IntKind.i64.wrap ((BitVec.ofInt 64 (n:Int)^^^BitVec.ofInt 64 1).toNat:Nat)=_;rw[BitVec.toNat_xor,h1,h2]
 have h3:n^^^1=Oq n:=by
  have e1:(n^^^1) / 2=n / 2:=by
   have :=Nat.xor_div_two (a:=n) (b:=1);rw[this];simp
  have e2:(n^^^1) % 2=(n % 2+1) % 2:=by
   have h:=Nat.xor_mod_two_pow (a:=n) (b:=1) (n:=1);rw[Nat.pow_one]at h;rw[h];rcases Nat.mod_two_eq_zero_or_one n with q | q<;>rw[q]<;>rfl
  unfold Oq;split<;>omega
 rw[h3]
 exact IntWalk.i64_in _ (by have :Oq n≤n+1:=by unfold Oq;split<;>omega
                            omega)
end Go.Proofs.YtfddbnmfllgifaaGreatDoor
