/- Part of TopMembers. -/
import Derived.Lib.BitFns
import Derived.Test.YtfddbnmfllgifaaGreatDoorA27
set_option linter.unusedVariables false
set_option linter.unusedSimpArgs false
set_option maxHeartbeats 64000000
namespace Go.Proofs.YtfddbnmfllgifaaGreatDoor
namespace DivLaw
def Inv(A b Y q r:Nat):Prop:=
 q*(Y / 4294967296)+r=A∧r < 4294967296∧A*4294967296+b < (q+1)*Y∧q≤4294967297
theorem Iu(Y q:Nat):q*Y=q*(Y / 4294967296)*4294967296+q*(Y % 4294967296):=by
 have :q*Y=q*(Y / 4294967296*4294967296+Y % 4294967296):=(by rw[Nat.div_add_mod']);rw[this,Nat.mul_add,Nat.mul_assoc]
theorem TV{A b Y y1 y0 q m r:Nat}(e:Y=y1*4294967296+y0)(hb:b < 4294967296)(hd:m+r=A)(hr:r < y1)(hm:m=q*y1):
 A*4294967296+b < (q+1)*Y:=by
 rw[e,Nat.mul_add,←Nat.mul_assoc,Nat.add_mul,Nat.one_mul,←hm];have h0:0≤(q+1)*y0:=Nat.zero_le _;omega
theorem init(A b Y:Nat)(hY:9223372036854775808≤Y)(ae:Y < 18446744073709551616)(hA:A < Y)(hb:b < 4294967296):
 Inv A b Y (A / (Y / 4294967296)) (A % (Y / 4294967296)):=by
 have h1:2147483648≤Y / 4294967296:=(by omega);have h2:Y / 4294967296 < 4294967296:=(by omega);have hm:A % (Y / 4294967296) < Y / 4294967296:=Nat.mod_lt _ (by omega);have hd:=Nat.div_add_mod' A (Y / 4294967296);have hs:=(Nat.div_add_mod' Y 4294967296).symm;refine⟨hd,by omega,TV hs hb hd hm rfl,?_⟩
 have hq:A / (Y / 4294967296) < 4294967298:=by
  rw[Nat.div_lt_iff_lt_mul (by omega)];omega
 omega
theorem SY{A b Y m:Nat}(hA:A < Y)(hb:b < 4294967296)(h5:4294967296*Y≤m):A*4294967296+b < m:=by omega
theorem Pe{b m n r:Nat}(hc:r+b < n):m+r+b < m+n:=by omega
theorem step{A b Y q r:Nat}(hb:b < 4294967296)(hA:A < Y)(h:Inv A b Y q r)
 (hc:4294967296≤q∨r*4294967296+b < q*(Y % 4294967296)):
 1≤q∧A*4294967296+b < q*Y∧(q - 1)*(Y / 4294967296)+(r+Y / 4294967296)=A∧A*4294967296+b < (q - 1+1)*Y:=by
 obtain⟨h1,h2,h3,h4⟩:=h
 have ae:A*4294967296+b < q*Y:=by
  rcases hc with hc | hc
  · have h5:4294967296*Y≤q*Y:=Nat.mul_le_mul_right Y hc;exact SY hA hb h5
  · rw[Iu Y q,←h1,Nat.add_mul];exact Pe hc
 have hq:1≤q:=by
  rcases Nat.eq_zero_or_pos q with h0 | h0
  · subst h0;omega
  · exact h0
 obtain⟨p,rfl⟩:∃p,q=p+1:=⟨q - 1,by omega⟩;refine⟨hq,ae,?_,by simpa using ae⟩;rw[Nat.add_sub_cancel];rw[Nat.add_mul,Nat.one_mul]at h1;omega
theorem next{A b Y q r:Nat}(hb:b < 4294967296)(hA:A < Y)(h:Inv A b Y q r)
 (hc:4294967296≤q∨r*4294967296+b < q*(Y % 4294967296)) (hr:r+Y / 4294967296 < 4294967296):Inv A b Y (q - 1) (r+Y / 4294967296):=by
 obtain⟨h1,h2,h3,h4⟩:=step hb hA h hc;exact⟨h3,hr,h4,by have :=h.2.2.2;omega⟩
def Fin(A b Y q:Nat):Prop:=q=(A*4294967296+b) / Y
theorem TI{A b Y q:Nat}(h1:q*Y≤A*4294967296+b)(h2:A*4294967296+b < (q+1)*Y):Fin A b Y q:=by
 have hY:0 < Y:=by
  rcases Nat.eq_zero_or_pos Y with h | h
  · subst h;omega
  · exact h
 refine Nat.le_antisymm ((Nat.le_div_iff_mul_le hY).2 h1) ?_;have :=(Nat.div_lt_iff_lt_mul hY).2 h2;omega
theorem WZ{A b m n r y1:Nat}(h3:m+(r+y1)=A)(h5:n≤4294967296*4294967295)(hr:4294967296≤r+y1):m*4294967296+n≤A*4294967296+b:=by omega
theorem WY{A b m n r:Nat}(h1:m+r=A)(hc:n≤r*4294967296+b):m*4294967296+n≤A*4294967296+b:=by omega
theorem brk{A b Y q r:Nat}(hb:b < 4294967296)(hA:A < Y)(h:Inv A b Y q r)
 (hc:4294967296≤q∨r*4294967296+b < q*(Y % 4294967296)) (hr:4294967296≤r+Y / 4294967296):Fin A b Y (q - 1):=by
 obtain⟨h1,h2,h3,h4⟩:=step hb hA h hc;refine TI ?_ h4;have h5:(q - 1)*(Y % 4294967296)≤4294967296*4294967295:=Nat.mul_le_mul (by have :=h.2.2.2;omega) (by omega);rw[Iu Y (q - 1)];exact WZ h3 h5 hr
theorem out{A b Y q r:Nat}(h:Inv A b Y q r)(hc:q*(Y % 4294967296)≤r*4294967296+b):Fin A b Y q:=by
 obtain⟨h1,h2,h3,h4⟩:=h;refine TI ?_ h3;rw[Iu Y q];exact WY h1 hc
theorem Vb{A b Y q:Nat}(hb:b < 4294967296)(hA:A < Y)(h:Fin A b Y q):q < 4294967296:=by
 rw[h,Nat.div_lt_iff_lt_mul (by omega)];have :(A+1)*4294967296≤Y*4294967296:=Nat.mul_le_mul_right _ hA;rw[Ym 4294967296 Y];omega
theorem QF{A b m t Y:Nat}(hd:m+t=A*4294967296+b)(hm:t < Y)(ae:Y < 18446744073709551616):
 ((((A:Int)*4294967296 % 18446744073709551616+b) % 18446744073709551616 - (m:Int) % 18446744073709551616) % 18446744073709551616)=(t:Int):=by omega
theorem rest{A b Y q:Nat}(ae:Y < 18446744073709551616)(hY:0 < Y)(h:Fin A b Y q):
 ((((A:Int)*4294967296 % 18446744073709551616+b) % 18446744073709551616 - ((q:Int)*Y) % 18446744073709551616) % 18446744073709551616)=(((A*4294967296+b) % Y:Nat):Int):=by
 have hd:=Nat.div_add_mod' (A*4294967296+b) Y;have hm:=Nat.mod_lt (A*4294967296+b) hY;rw[←h]at hd;have e:(q:Int)*Y=((q*Y:Nat):Int):=(Int.natCast_mul q Y).symm;rw[e];exact QF hd hm ae
theorem Tu{T c m t:Nat}(hd:m+t=T):T*4294967296+c=t*4294967296+c+m*4294967296:=by omega
theorem both(T c Y:Nat)(hY:0 < Y):
 (T*4294967296+c) / Y=T / Y*4294967296+(T % Y*4294967296+c) / Y∧(T*4294967296+c) % Y=(T % Y*4294967296+c) % Y:=by
 have e:T*4294967296+c=(T % Y*4294967296+c)+Y*(T / Y*4294967296):=by
  have hd:=Nat.div_add_mod T Y;rw[←Nat.mul_assoc];exact Tu hd
 rw[e,Nat.add_mul_div_left _ _ hY,Nat.add_mul_mod_self_left];exact⟨Nat.add_comm _ _,rfl⟩
theorem back(hi lo y s:Nat):
 (hi*2^s*18446744073709551616+lo*2^s) / (y*2^s)=(hi*18446744073709551616+lo) / y∧
 (hi*2^s*18446744073709551616+lo*2^s) % (y*2^s) / 2^s=(hi*18446744073709551616+lo) % y:=by
 have e:hi*2^s*18446744073709551616+lo*2^s=(hi*18446744073709551616+lo)*2^s:=by
  rw[Nat.add_mul,Nat.mul_right_comm]
 have h2:0 < 2^s:=Nat.two_pow_pos s;rw[e,Nat.mul_div_mul_right _ _ h2,Nat.mul_mod_mul_right,Nat.mul_div_cancel _ h2];exact⟨rfl,rfl⟩
theorem words(hi lo s:Nat)(hs:s≤63)(af:lo < 18446744073709551616):
 lo / 2^(64 - s) < 2^s∧(hi*2^s||| lo / 2^(64 - s))=hi*2^s+lo / 2^(64 - s)∧
 hi*2^s*18446744073709551616+lo*2^s=(hi*2^s+lo / 2^(64 - s))*18446744073709551616+lo*2^s % 18446744073709551616:=by
 have ae:(18446744073709551616:Nat)=2^s*2^(64 - s):=by
  rw[←Nat.pow_add,show s+(64 - s)=64 from by omega]
 have h1:lo / 2^(64 - s) < 2^s:=by
  rw[Nat.div_lt_iff_lt_mul (Nat.two_pow_pos _),←ae];exact af
 refine⟨h1,?_,?_⟩
 · rw[Ym hi,Nat.two_pow_add_eq_or_of_lt h1]
 · have h2:lo*2^s / 18446744073709551616=lo / 2^(64 - s):=by
    rw[ae,Ym (2^s) (2^(64 - s)),Nat.mul_div_mul_right _ _ (Nat.two_pow_pos _)]
   have hd:=Nat.div_add_mod' (lo*2^s) 18446744073709551616;rw[h2]at hd;rw[Nat.add_mul,Nat.add_assoc,hd]
end DivLaw
namespace DivLaw
open Go.Lib
theorem Qc(f:Nat):bitLenAux f 0=0:=by cases f<;>simp[bitLenAux]
theorem JD:∀(f x:Nat),x < 2^f→x < 2^bitLenAux f x∧(0 < x→2^bitLenAux f x≤2*x)∧bitLenAux f x≤f
 | 0,x,h=>by
   have :x=0:=(by simpa using h);subst this;simp[bitLenAux]
 | f+1,x,h=>by
   simp only[bitLenAux];by_cases h0:x=0
   · subst h0;simp
   · rw[if_neg h0];by_cases h1:x=1
     · subst h1;have hz:bitLenAux f (1 / 2)=0:=Qc f;rw[hz];simp
     · have ih:=JD f (x / 2) (by rw[Nat.pow_succ]at h;omega);rw[Nat.add_comm 1,Nat.pow_succ];have h3:=ih.2.1 (by omega);exact⟨by omega,fun _=>by omega,by omega⟩
def sh(y:Nat):Nat:=64 - bitLen y
theorem JJ(y:Nat)(h0:0 < y)(h1:y < 18446744073709551616):
 bitLen y≤64∧sh y≤63∧y*2^sh y < 18446744073709551616∧9223372036854775808≤y*2^sh y:=by
 obtain⟨a,b,c⟩:=JD 64 y h1;have hb:=b h0
 have hk:1≤bitLen y:=by
  rcases Nat.eq_zero_or_pos (bitLen y)with h | h
  · have a':y < 2^bitLen y:=a;rw[h]at a';omega
  · exact h
 have e:2^bitLen y*2^sh y=18446744073709551616:=by
  rw[←Nat.pow_add,sh,show bitLen y+(64 - bitLen y)=64 from by have :bitLen y≤64:=c;omega]
 have h2:0 < 2^sh y:=Nat.two_pow_pos _;refine⟨c,by unfold sh;omega,?_,?_⟩
 · rw[←e];exact Nat.mul_lt_mul_of_pos_right a h2
 · have :2^bitLen y*2^sh y≤2*y*2^sh y:=Nat.mul_le_mul_right _ hb;rw[e,Nat.mul_assoc]at this;omega
end DivLaw
end Go.Proofs.YtfddbnmfllgifaaGreatDoor
