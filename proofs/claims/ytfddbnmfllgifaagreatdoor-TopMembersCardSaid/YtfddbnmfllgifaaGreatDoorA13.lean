/- Part of TopMembers. -/
import Derived.Test.YtfddbnmfllgifaaGreatDoorA11
import Derived.Test.YtfddbnmfllgifaaGreatDoorA12
import Derived.BigQuiet
import Derived.Deep.CutBlock
import Derived.Deep.DeepCutAuto
import Derived.Deep.Light
import Derived.Test.YtfddbnmfllgifaaGreatDoorA0
set_option linter.unusedVariables false
set_option linter.unusedSimpArgs false
set_option maxHeartbeats 64000000
set_option maxRecDepth 100000
namespace Go.Proofs.YtfddbnmfllgifaaGreatDoor
open Go.RowKit Go.Lib
theorem XJ(y:Nat)(w:World)(h0:0 < y)(h1:y < 18446744073709551616):
 Calls Tryz.prog 265 #[.int .u64 y] w fun e w'=>e=.returned (.int .i64 (DivLaw.sh y:Nat))∧w=w':=
 (Qn y w (by omega) (by omega)).mono fun e w' ⟨he,hw⟩=>⟨by
   rw[he];congr 2;have :=(DivLaw.JJ y h0 h1).1
   unfold DivLaw.sh;rw[Int.toNat_natCast];omega,hw⟩
theorem Nl(hi lo y:Nat)(hh:0 < hi)(hy:hi < y)(aJ:y < 18446744073709551616)(aP:lo < 18446744073709551616)(w:World):
 Calls Tryz.prog 241 #[.int .u64 hi,.int .u64 lo,.int .u64 y] w fun e w'=>e=.returned (.tuple #[.int .u64 (((hi*18446744073709551616+lo) / y:Nat):Int),.int .u64 (((hi*18446744073709551616+lo) % y:Nat):Int)])∧w=w':=by
 have h0:((y:Int)==0)=false:=(by rw[beq_eq_false_iff_ne];omega);have h1:((hi:Int)==0)=false:=(by rw[beq_eq_false_iff_ne];omega);have h2:decide ((y:Int)≤hi)=false:=(by simp;omega);obtain⟨_,bD,ax,az⟩:=DivLaw.JJ y (by omega) aJ;have bP:=XJ y w (by omega) aJ;have bF:=zh bP;clear bP;obtain⟨aZ,aQ,aC⟩:=DivLaw.words hi lo (DivLaw.sh y) bD aP;obtain⟨bQ,bf⟩:=DivLaw.back hi lo y (DivLaw.sh y)
 generalize DivLaw.sh y=s at *
 have bg:hi*2^s < y*2^s:=Nat.mul_lt_mul_of_pos_right hy (Nat.two_pow_pos s)
 generalize hYe:y*2^s=Y at *
 generalize hHe:hi*2^s=H at *
 generalize hTe:64 - s=t at *
 generalize hLe:lo / 2^t=L at *
 have aS:L < 18446744073709551616:=by
  have :=Nat.div_le_self lo (2^t);omega
 have hMe:lo*2^s % 18446744073709551616 < 18446744073709551616:=Nat.mod_lt _ (by decide)
 generalize hme:lo*2^s % 18446744073709551616=M at *
 have rY:(y:Int)*2^s=(Y:Int):=(by rw[←hYe];push_cast;rfl);have rH:(hi:Int)*2^s=(H:Int):=by rw[←hHe];push_cast;rfl
 have rM:IntKind.u64.wrap ((lo:Int)*2^s)=(M:Int):=by
  rw[←hme,←wrapM];push_cast;rfl
 have rL:(lo:Int) / 2^t=(L:Int):=(by rw[←hLe];push_cast;rfl);have bu:min s 64=s:=(by omega);have aK:min t 64=t:=(by omega);have rt:(64 - (s:Int)).toNat=t:=(by omega);have aN:bits .and .u64 (Y:Int) 4294967295=((Y % 4294967296:Nat):Int):=maskN Y ax;have aF:bits .and .u64 (M:Int) 4294967295=((M % 4294967296:Nat):Int):=maskN M hMe;have bz:bits .or .u64 (H:Int) (L:Int)=((H+L:Nat):Int):=by rw[bits_or_u64_nat H L (by omega) aS,aQ]
 have ak:H+L < Y:=by
  have :(hi+1)*2^s≤y*2^s:=Nat.mul_le_mul_right _ hy;rw[Nat.add_mul,Nat.one_mul,hHe,hYe]at this;omega
 have HN:=zh aC;have bZ:=zh bQ;have cu:=zh bf;clear aC bQ bf;clear hHe hTe hLe hme
 generalize hAe:H+L=A at *
 have aO:M / 4294967296 < 4294967296:=(by omega);have hI:=DivLaw.init A (M / 4294967296) Y az ax ak aO;have dw:2147483648≤Y / 4294967296:=(by omega);have hy1':Y / 4294967296 < 4294967296:=(by omega);have cO:=Nat.div_add_mod' A (Y / 4294967296);have hAd:=Nat.mod_lt A (show 0 < Y / 4294967296 by omega);have hy0':Y % 4294967296 < 4294967296:=(by omega);have bn:(Y:Int) / 4294967296=((Y / 4294967296:Nat):Int):=(by omega);have rb:(M:Int) / 4294967296=((M / 4294967296:Nat):Int):=(by omega);have HI:=zh hI;clear hI
 generalize hy1e:Y / 4294967296=y1 at *
 generalize hy0e:Y % 4294967296=y0 at *
 generalize hbe:M / 4294967296=b at *
 generalize hce:M % 4294967296=c at *
 generalize hqe:A / y1=q at *
 generalize hre:A % y1=r at *
 have rq:(A:Int) / (y1:Int)=(q:Int):=by rw[←hqe];push_cast;rfl
 generalize hme:q*y1=m at *
 have rm:(q:Int)*(y1:Int)=(m:Int):=(by rw[←hme];push_cast;rfl);have rr:(A:Int) - (m:Int)=(r:Int):=(by omega);have aB:q≤4294967297:=(by have :=HI.2.2.2;exact this);have hc:c < 4294967296:=(by omega);have af:=zh hy1e;have ai:=zh hy0e;have cZ:=zh hbe;have df:=zh hce;clear hy1e hy0e hbe hce hqe hre hme cO hYe hAe;go_in;go_wp2_with fail;refine(bF.o).mono ?_;rintro e w' ⟨rfl,rfl⟩;go_upto_block 0 with fail;have aG:b < 4294967296:=aO;go_cut [15,16] (fun dh bG wx=>w=wx∧∃p v:Nat,dh=.int .u64 (p:Int)∧bG=.int .u64 (v:Int)∧Hid (DivLaw.Fin A b Y p))
 case first =>
  clear bF rY rH rM rL bu aK rt aN aF bz rq rm rr;go_wp2_with fail;go_loopg [15,16] q (fun g bH bI wx=>w=wx∧∃p v:Nat,p=g∧bH=.int .u64 (p:Int)∧bI=.int .u64 (v:Int)∧v < 4294967296∧p≤4294967297∧Hid (DivLaw.Inv A b Y p v));case atStart=>exact⟨rfl,q,r,rfl,rfl,rfl,by omega,aB,HI⟩
  case round=>
   obtain⟨rfl,p,v,rfl,rfl,rfl,hv,hp,hinv⟩:=hrel;by_cases ag:p < 4294967296
   · have bJ:p*y0 < 18446744073709551616:=by
      have :p*y0≤4294967295*4294967295:=Nat.mul_le_mul (by omega) (by omega);omega
     obtain⟨n,hn⟩:=zg (p*y0);have di:(p:Int)*(y0:Int)=(n:Int):=by rw[←hn];exact(Int.natCast_mul _ _).symm
     have ah:v*4294967296+b < n→1≤p:=fun h=>by
      rcases Nat.eq_zero_or_pos p with h0 | h0
      · subst h0;rw[Nat.zero_mul]at hn;omega
      · exact h0
     rw[hn]at bJ;have Hn:=zh hn;clear hn;have g1:decide ((4294967296:Int)≤(p:Int))=false:=(by simp;omega);by_cases aH:v*4294967296+b < n
     · have g2:decide ((4294967296:Int)*(v:Int)+(b:Int) < (n:Int))=true:=(by simp;omega);have hcase:4294967296≤p∨v*4294967296+b < p*y0:=Or.inr (by rw[Hn.o];exact aH);have ae:=ah aH;clear ah;by_cases aj:v+y1 < 4294967296
       · have aT:Hid (DivLaw.Inv A b Y (p - 1) (v+y1)):=(by have :=DivLaw.next (Y:=Y) (A:=A) (q:=p) (r:=v) aG ak hinv.o (by rw[ai.o];exact hcase) (by rw[af.o];exact aj);rw[af.o]at this;exact this);have g3:decide ((4294967296:Int)≤(v:Int)+(y1:Int))=false:=(by simp;omega);have aU:1≤p:=ae;have aV:=zh aj;clear hcase aj ag aH ae;clear bn rb hh hy aJ aP h0 h1 h2 ax az bg aZ aS hMe aQ ak hAd aB hc aO;go_wp2;go_light;go_roundg(p - 1);(case measure=>omega);case rel=>exact⟨rfl,p - 1,v+y1,rfl,by congr 1<;>omega,by congr 1<;>omega,aV.o,by omega,aT⟩
       · have hfin:Hid (DivLaw.Fin A b Y (p - 1)):=DivLaw.brk (Y:=Y) (A:=A) (q:=p) (r:=v) aG ak hinv.o (by rw[ai.o];exact hcase) (by rw[af.o];omega);have g3:decide ((4294967296:Int)≤(v:Int)+(y1:Int))=true:=(by simp;omega);have aU:1≤p:=ae;clear hcase aj ag aH ae;clear bn rb hh hy aJ aP h0 h1 h2 ax az bg aZ aS hMe aQ ak hAd aB hc aO;go_wp2;go_meet;exact⟨rfl,p - 1,v+y1,by congr 1<;>omega,by congr 1<;>omega,hfin⟩
     · have g2:decide ((4294967296:Int)*(v:Int)+(b:Int) < (n:Int))=false:=by simp;omega
       have hfin:Hid (DivLaw.Fin A b Y p):=by
        refine DivLaw.out hinv.o ?_;rw[ai.o,Hn.o];omega
       clear aH ag ah;clear bn rb hh hy aJ aP h0 h1 h2 ax az bg aZ aS hMe aQ ak hAd aB hc aO;go_wp2;go_meet;exact⟨rfl,p,v,rfl,rfl,hfin⟩
   · have g1:decide ((4294967296:Int)≤(p:Int))=true:=(by simp;omega);have hcase:4294967296≤p∨v*4294967296+b < p*y0:=Or.inl (by omega);have ae:1≤p:=(by omega);by_cases aj:v+y1 < 4294967296
     · have aT:Hid (DivLaw.Inv A b Y (p - 1) (v+y1)):=(by have :=DivLaw.next (Y:=Y) (A:=A) (q:=p) (r:=v) aG ak hinv.o (by rw[ai.o];exact hcase) (by rw[af.o];exact aj);rw[af.o]at this;exact this);have g3:decide ((4294967296:Int)≤(v:Int)+(y1:Int))=false:=(by simp;omega);have aU:1≤p:=ae;have aV:=zh aj;clear hcase aj ag ae;clear bn rb hh hy aJ aP h0 h1 h2 ax az bg aZ aS hMe aQ ak hAd aB hc aO;go_wp2;go_light;go_roundg(p - 1);(case measure=>omega);case rel=>exact⟨rfl,p - 1,v+y1,rfl,by congr 1<;>omega,by congr 1<;>omega,aV.o,by omega,aT⟩
     · have hfin:Hid (DivLaw.Fin A b Y (p - 1)):=DivLaw.brk (Y:=Y) (A:=A) (q:=p) (r:=v) aG ak hinv.o (by rw[ai.o];exact hcase) (by rw[af.o];omega);have g3:decide ((4294967296:Int)≤(v:Int)+(y1:Int))=true:=(by simp;omega);have aU:1≤p:=ae;clear hcase aj ag ae;clear bn rb hh hy aJ aP h0 h1 h2 ax az bg aZ aS hMe aQ ak hAd aB hc aO;go_wp2;go_meet;exact⟨rfl,p - 1,v+y1,by congr 1<;>omega,by congr 1<;>omega,hfin⟩
 case rest=>
  obtain⟨rfl,p1,v1,rfl,rfl,aI⟩:=hcut;have au:=DivLaw.Vb aG ak aI.o;have aA:(A*4294967296+b) % Y < Y:=Nat.mod_lt _ (by omega)
  have bK:IntKind.u64.wrap (IntKind.u64.wrap (IntKind.u64.wrap ((A:Int)*4294967296)+(b:Int)) - IntKind.u64.wrap ((p1:Int)*(Y:Int)))=(((A*4294967296+b) % Y:Nat):Int):=by
   rw[IntKind.wrap_u64,IntKind.wrap_u64,IntKind.wrap_u64,IntKind.wrap_u64];exact DivLaw.rest ax (by omega) aI.o
  obtain⟨T,hTe⟩:=zg ((A*4294967296+b) % Y);rw[hTe]at aA bK;have HT:=zh hTe;clear hTe;have bC:=DivLaw.init T c Y az ax aA hc;rw[af.o]at bC;have hTd:=Nat.mod_lt T (show 0 < y1 by omega);have hTm:=Nat.div_add_mod' T y1;obtain⟨q2,aW⟩:=zg (T / y1);obtain⟨r2,aX⟩:=zg (T % y1);have bT:(T:Int) / (y1:Int)=(q2:Int):=(by rw[←aW];push_cast;rfl);rw[aW,aX]at bC hTm;rw[aX]at hTd;obtain⟨m2,aY⟩:=zg (q2*y1);rw[aY]at hTm;have bU:(q2:Int)*(y1:Int)=(m2:Int):=(by rw[←aY];push_cast;rfl);have bV:(T:Int) - (m2:Int)=(r2:Int):=(by omega);have ay:q2≤4294967297:=bC.2.2.2;have bW:=zh bC;clear bC hTm aW aX aY;clear bn rb hh hy aJ aP h0 h1 h2 bg aZ aS hMe aQ hAd aO HI bF rY rH rM rL aK rt aN aF bz rq rm rr;go_upto_block 2 with fail;go_cut [16,18] (fun bG dm wx=>w=wx∧∃p v:Nat,dm=.int .u64 (p:Int)∧bG=.int .u64 (v:Int)∧Hid (DivLaw.Fin T c Y p))
  case first =>
   have HI:=bW;clear bW bK bT bU bV bu;go_wp2_with fail;go_loopg [16,18] q2 (fun g bI bH wx=>w=wx∧∃p v:Nat,p=g∧bH=.int .u64 (p:Int)∧bI=.int .u64 (v:Int)∧v < 4294967296∧p≤4294967297∧Hid (DivLaw.Inv T c Y p v));case atStart=>exact⟨rfl,q2,r2,rfl,rfl,rfl,by omega,ay,HI⟩
   case round=>
    obtain⟨rfl,p,v,rfl,rfl,rfl,hv,hp,hinv⟩:=hrel;by_cases ag:p < 4294967296
    · have bJ:p*y0 < 18446744073709551616:=by
       have :p*y0≤4294967295*4294967295:=Nat.mul_le_mul (by omega) (by omega);omega
      obtain⟨n,hn⟩:=zg (p*y0);have di:(p:Int)*(y0:Int)=(n:Int):=by rw[←hn];exact(Int.natCast_mul _ _).symm
      have ah:v*4294967296+c < n→1≤p:=fun h=>by
       rcases Nat.eq_zero_or_pos p with h0 | h0
       · subst h0;rw[Nat.zero_mul]at hn;omega
       · exact h0
      rw[hn]at bJ;have Hn:=zh hn;clear hn;have g1:decide ((4294967296:Int)≤(p:Int))=false:=(by simp;omega);by_cases aH:v*4294967296+c < n
      · have g2:decide ((4294967296:Int)*(v:Int)+(c:Int) < (n:Int))=true:=(by simp;omega);have hcase:4294967296≤p∨v*4294967296+c < p*y0:=Or.inr (by rw[Hn.o];exact aH);have ae:=ah aH;clear ah;by_cases aj:v+y1 < 4294967296
        · have aT:Hid (DivLaw.Inv T c Y (p - 1) (v+y1)):=(by have :=DivLaw.next (Y:=Y) (A:=T) (q:=p) (r:=v) hc aA hinv.o (by rw[ai.o];exact hcase) (by rw[af.o];exact aj);rw[af.o]at this;exact this);have g3:decide ((4294967296:Int)≤(v:Int)+(y1:Int))=false:=(by simp;omega);have aU:1≤p:=ae;have aV:=zh aj;clear hcase aj ag aH ae;clear ax az ak aB aA hTd ay aG au;go_wp2;go_light;go_roundg(p - 1);(case measure=>omega);case rel=>exact⟨rfl,p - 1,v+y1,rfl,by congr 1<;>omega,by congr 1<;>omega,aV.o,by omega,aT⟩
        · have hfin:Hid (DivLaw.Fin T c Y (p - 1)):=DivLaw.brk (Y:=Y) (A:=T) (q:=p) (r:=v) hc aA hinv.o (by rw[ai.o];exact hcase) (by rw[af.o];omega);have g3:decide ((4294967296:Int)≤(v:Int)+(y1:Int))=true:=(by simp;omega);have aU:1≤p:=ae;clear hcase aj ag aH ae;clear ax az ak aB aA hTd ay aG au;go_wp2;go_meet;exact⟨rfl,p - 1,v+y1,by congr 1<;>omega,by congr 1<;>omega,hfin⟩
      · have g2:decide ((4294967296:Int)*(v:Int)+(c:Int) < (n:Int))=false:=by simp;omega
        have hfin:Hid (DivLaw.Fin T c Y p):=by
         refine DivLaw.out hinv.o ?_;rw[ai.o,Hn.o];omega
        clear aH ag ah;clear ax az ak aB aA hTd ay aG au;go_wp2;go_meet;exact⟨rfl,p,v,rfl,rfl,hfin⟩
    · have g1:decide ((4294967296:Int)≤(p:Int))=true:=(by simp;omega);have hcase:4294967296≤p∨v*4294967296+c < p*y0:=Or.inl (by omega);have ae:1≤p:=(by omega);by_cases aj:v+y1 < 4294967296
      · have aT:Hid (DivLaw.Inv T c Y (p - 1) (v+y1)):=(by have :=DivLaw.next (Y:=Y) (A:=T) (q:=p) (r:=v) hc aA hinv.o (by rw[ai.o];exact hcase) (by rw[af.o];exact aj);rw[af.o]at this;exact this);have g3:decide ((4294967296:Int)≤(v:Int)+(y1:Int))=false:=(by simp;omega);have aU:1≤p:=ae;have aV:=zh aj;clear hcase aj ag ae;clear ax az ak aB aA hTd ay aG au;go_wp2;go_light;go_roundg(p - 1);(case measure=>omega);case rel=>exact⟨rfl,p - 1,v+y1,rfl,by congr 1<;>omega,by congr 1<;>omega,aV.o,by omega,aT⟩
      · have hfin:Hid (DivLaw.Fin T c Y (p - 1)):=DivLaw.brk (Y:=Y) (A:=T) (q:=p) (r:=v) hc aA hinv.o (by rw[ai.o];exact hcase) (by rw[af.o];omega);have g3:decide ((4294967296:Int)≤(v:Int)+(y1:Int))=true:=(by simp;omega);have aU:1≤p:=ae;clear hcase aj ag ae;clear ax az ak aB aA hTd ay aG au;go_wp2;go_meet;exact⟨rfl,p - 1,v+y1,by congr 1<;>omega,by congr 1<;>omega,hfin⟩
  case rest=>
   obtain⟨rfl,p,v,rfl,rfl,hfin⟩:=hcut;have dA:=DivLaw.Vb hc aA hfin.o
   have dn:IntKind.u64.wrap (IntKind.u64.wrap (IntKind.u64.wrap ((T:Int)*4294967296)+(c:Int)) - IntKind.u64.wrap ((p:Int)*(Y:Int)))=(((T*4294967296+c) % Y:Nat):Int):=by
    rw[IntKind.wrap_u64,IntKind.wrap_u64,IntKind.wrap_u64,IntKind.wrap_u64];exact DivLaw.rest ax (by omega) hfin.o
   obtain⟨d1,d2⟩:=DivLaw.both (A*4294967296+b) c Y (by omega);have hN:(A*4294967296+b)*4294967296+c=A*18446744073709551616+M:=(by rw[←cZ.o,←df.o];omega);rw[hN,←HN.o,HT.o]at d1 d2;rw[bZ.o,←aI.o,←hfin.o]at d1;obtain⟨R,hR⟩:=zg ((T*4294967296+c) % Y);rw[hR]at dn d2;have bf:=cu.o;rw[d2]at bf;have rR:(R:Int) / 2^s=(((hi*18446744073709551616+lo) % y:Nat):Int):=(by rw[←bf];push_cast;rfl);have D1:=zh d1;clear d1 d2 hR bf hN;obtain⟨g2,bM⟩:=zg ((hi*18446744073709551616+lo) % y);rw[bM]at rR;have bY:=zh bM;clear bM ax az ak aB aA hTd ay aG bK bT bU bV
   have Hf:Hid (Ending.returned (Value.tuple #[.int .u64 ((p1:Int)*4294967296+(p:Int)),.int .u64 (g2:Int)])=Ending.returned (.tuple #[.int .u64 (((hi*18446744073709551616+lo) / y:Nat):Int),.int .u64 (((hi*18446744073709551616+lo) % y:Nat):Int)])):=by
    show _=_;rw[D1.o,bY.o,show((p1*4294967296+p:Nat):Int)=(p1:Int)*4294967296+(p:Int)from by omega]
   clear bY D1;go_wp2;go_ret2;exact⟨Hf.o,rfl⟩
theorem GU(lo y:Nat)(hy:0 < y)(ae:y < 18446744073709551616)(af:lo < 18446744073709551616)(w:World):
 Calls Tryz.prog 241 #[.int .u64 0,.int .u64 lo,.int .u64 y] w (zr (.tuple #[.int .u64 ((lo / y:Nat):Int),.int .u64 ((lo % y:Nat):Int)]) w):=by
 have h0:((y:Int)==0)=false:=(by rw[beq_eq_false_iff_ne];omega);have h1:decide ((y:Int)≤0)=false:=(by simp;omega);have h3:(1:Int)≤(y:Int):=(by omega);obtain⟨q,hq⟩:=zg (lo / y);obtain⟨r,hr⟩:=zg (lo % y);have e1:(lo:Int) / (y:Int)=(q:Int):=(by rw[←hq];push_cast;rfl);have e2:(lo:Int) % (y:Int)=(r:Int):=(by rw[←hr];push_cast;rfl);have ag:q≤lo:=(by rw[←hq];exact Nat.div_le_self _ _);have ah:r < y:=(by rw[←hr];exact Nat.mod_lt _ hy);rw[hq,hr]
 have Hf:Hid (Ending.returned (Value.tuple #[.int .u64 (q:Int),.int .u64 ((lo:Int) % (y:Int))])=Ending.returned (Value.tuple #[.int .u64 (q:Int),.int .u64 (r:Int)])):=by
  show _=_;rw[e2]
 clear hq hr e2;go_in;go_wp2_with fail;go_quiet (fail);go_wp2;go_ret2;exact⟨Hf.o,⟨rfl,rfl,rfl,Ya _,fun _ _=>rfl⟩⟩
theorem y8(hi lo y:Nat)(hy:hi < y)(ae:y < 18446744073709551616)(af:lo < 18446744073709551616)(w:World):
 Calls Tryz.prog 241 #[.int .u64 hi,.int .u64 lo,.int .u64 y] w (zr (.tuple #[.int .u64 (((hi*18446744073709551616+lo) / y:Nat):Int),.int .u64 (((hi*18446744073709551616+lo) % y:Nat):Int)]) w):=by
 rcases Nat.eq_zero_or_pos hi with h | h
 · subst h;refine(GU lo y hy ae af w).mono fun e w' hw=>?_;rw[Nat.zero_mul,Yl];exact hw
 · exact(Nl hi lo y h hy ae af w).mono fun e w' ⟨he,hw⟩=>⟨he,hw▸Yb _ _⟩
end Go.Proofs.YtfddbnmfllgifaaGreatDoor
