/- Part of TopMembers. -/
import Derived.Test.YtfddbnmfllgifaaGreatDoorA3
import Derived.Deep.Light
set_option linter.unusedVariables false
set_option linter.unusedSimpArgs false
set_option maxHeartbeats 64000000
set_option maxRecDepth 100000
namespace Go.Proofs.YtfddbnmfllgifaaGreatDoor
open Go.RowKit
def jG(n i:Nat):UInt8:=UInt8.ofNat (n / 2^(8*i))
theorem JE(n i:Nat):(n:Int) / 2^(8*i) % 256=(((jG n i).toNat:Nat):Int):=by
 unfold jG;rw[UInt8.toNat_ofNat',Int.natCast_emod,Int.natCast_ediv,Int.natCast_pow];rfl
def putRow(off L n k:Nat)(g:Nat→Value):Nat→Value:=fun j=>if off+L≤j+k∧j < off+L then vB (jG n (off+L - 1 - j))else g j
theorem put_any(B off L cap N T n:Nat)(g:Nat→Value)(w:World)(ae:ag w B T N g)(hL:L≤8)(ai:off+L≤N)(aj:L≤cap)(hn:n < 18446744073709551616):
 Calls Tryz.prog 168 #[.slice (some ⟨B,off,none⟩) L cap,.int .u64 (n:Int)] w fun e w'=>e=.returned (.tuple #[])∧ag w' B T N (putRow off L n L g)∧aG B w w':=by
 have I0:Hid (ag w B T N (putRow off L n 0 g)∧aG B w w):=zh ⟨ae.congr fun j hj=>by unfold putRow;rw[if_neg (by omega)],aG.refl _ _⟩;clear ae hn;go_in;go_wp2_with fail;go_loopg [4,7] L (fun q s4 s7 wx=>∃k:Nat,k+q=L∧s7=.int .i64 (k:Int)∧Hid (ag wx B T N (putRow off L n k g)∧aG B w wx));case atStart=>exact⟨0,by omega,rfl,I0⟩
 case round=>
  clear I0;obtain⟨k,hk,rfl,hI⟩:=hrel;by_cases ak:k < L
  · have d0:decide ((k:Int) < (L:Int))=true:=zt (by omega);have z1:=Ye k;have z2:(k:Int) < (L:Int):=(by omega);have z4:(L:Int)≤8:=(by omega);have e1:((L:Int) - 1 - (k:Int)).toNat=L - 1 - k:=(by omega);have hr:=hI.1;have c1:=hr.cell (i:=off+(L - 1 - k)) (by omega);have f1:=hr.frozen (off+(L - 1 - k));have hv:=JE n k
    have af:=zh (show ag (wr.setCell ⟨B,off+(L - 1 - k),none⟩ (vB (jG n k))) B T N (putRow off L n (k+1) g)∧aG B w (wr.setCell ⟨B,off+(L - 1 - k),none⟩ (vB (jG n k)))from
     ⟨hr.put fun j hj=>by
       unfold putRow;by_cases h1:j=off+(L - 1 - k)
       · subst h1;rw[if_pos rfl,if_pos (by omega),show off+L - 1 - (off+(L - 1 - k))=k by omega]
       · rw[if_neg h1];by_cases h2:off+L≤j+k∧j < off+L
         · rw[if_pos h2,if_pos (by omega)]
         · rw[if_neg h2,if_neg (by omega)],hI.2.setCell (.inl rfl) _⟩)
    obtain⟨v0,ah⟩:=zg (putRow off L n k g (off+(L - 1 - k)));rw[ah]at c1;clear hr ah;go_wp2_with fail;go_roundg(gk - 1);case measure=>omega
    case rel=>
     go_light;exact⟨k+1,by omega,by go_num,af⟩
  · have d0:decide ((k:Int) < (L:Int))=false:=zT (by omega);obtain rfl:k=L:=(by omega);go_wp2_with fail;go_end0;go_light;exact⟨rfl,hI.o⟩
end Go.Proofs.YtfddbnmfllgifaaGreatDoor
