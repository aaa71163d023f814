/- Part of TopMembers. -/
import Derived.Test.YtfddbnmfllgifaaGreatDoorA43
import Derived.Lib.Bytealg
set_option linter.unusedVariables false
set_option linter.unusedSimpArgs false
set_option maxHeartbeats 64000000
namespace Go.Proofs.YtfddbnmfllgifaaGreatDoor
open Go.RowKit Cod Top Go.Sort
structure Tot{α:Type}(cf:α→α→Int):Prop where
 anti:∀x y,cf x y < 0↔0 < cf y x
 trans:∀x y z,cf x y≤0→cf y z≤0→cf x z≤0
theorem Tot.swo{α:Type}{cf:α→α→Int}(h:Tot cf):SWO (ltOf cf) where
 irrefl x:=by have :=h.anti x x;unfold ltOf;simp;omega
 trans x y z h1 h2:=by
  unfold ltOf at *
  simp at *
  have a1:=h.anti x z;have a2:=h.anti z x;have a3:=h.anti y z;have t:=h.trans z x y;omega
 ntrans x y z h1 h2:=by
  unfold ltOf at *
  simp at *
  have a1:=h.anti y x;have a2:=h.anti z y;have a3:=h.anti x z;have a4:=h.anti x y;have a5:=h.anti y z;have t:=h.trans z y x;omega
def orC{α:Type}(f g:α→α→Int)(x y:α):Int:=if f x y=0 then g x y else f x y
theorem Tot.orC{α:Type}{f g:α→α→Int}(hf:Tot f)(hg:Tot g):Tot (orC f g) where
 anti x y:=by
  have a1:=hf.anti x y;have a2:=hf.anti y x;have b1:=hg.anti x y;unfold Go.Proofs.YtfddbnmfllgifaaGreatDoor.orC;by_cases h:f x y=0
  · have h2:f y x=0:=(by omega);rw[if_pos h,if_pos h2];exact b1
  · have h2:f y x≠0:=(by omega);rw[if_neg h,if_neg h2];exact a1
 trans x y z:=by
  have a1:=hf.anti x y;have a2:=hf.anti y x;have a3:=hf.anti y z;have a4:=hf.anti z y;have a5:=hf.anti x z;have a6:=hf.anti z x;have t1:=hf.trans x y z;have t2:=hf.trans z x y;have t3:=hf.trans y z x;have u1:=hg.trans x y z;unfold Go.Proofs.YtfddbnmfllgifaaGreatDoor.orC;intro h1 h2;by_cases hx:f x y=0
  · by_cases hy:f y z=0
    · rw[if_pos hx]at h1;rw[if_pos hy]at h2;by_cases hz:f x z=0
      · rw[if_pos hz];exact u1 h1 h2
      · rw[if_neg hz];omega
    · rw[if_pos hx]at h1;rw[if_neg hy]at h2;have hz:f x z≠0:=(by omega);rw[if_neg hz];omega
  · rw[if_neg hx]at h1;by_cases hy:f y z=0
    · rw[if_pos hy]at h2;have hz:f x z≠0:=(by omega);rw[if_neg hz];omega
    · rw[if_neg hy]at h2;have hz:f x z≠0:=(by omega);rw[if_neg hz];omega
theorem Tot.pull{α β:Type}{cf:β→β→Int}(h:Tot cf)(f:α→β):Tot (fun x y=>cf (f x) (f y)):=⟨fun x y=>h.anti _ _,fun x y z=>h.trans _ _ _⟩
theorem QL:Tot gu where
 anti x y:=by unfold gu;(repeat' split)<;>omega
 trans x y z:=by unfold gu;(repeat' split)<;>omega
theorem totB:Tot Lib.compareBytes where
 anti x:=by
  induction x with
  | nil=>intro y;cases y<;>simp[Lib.compareBytes]
  | cons a x ih=>
    intro y
    cases y with
    | nil=>simp[Lib.compareBytes]
    | cons b y=>
      unfold Lib.compareBytes;by_cases h1:a < b
      · have h2:¬b < a:=UInt8.lt_asymm h1;simp[h1,h2]
      · by_cases h2:b < a
        · simp[h1,h2]
        · simp[h1,h2];exact ih y
 trans x:=by
  induction x with
  | nil=>intro y z;cases y<;>cases z<;>simp[Lib.compareBytes]
  | cons a x ih=>
    intro y z
    cases y with
    | nil=>simp[Lib.compareBytes]
    | cons b y=>
      cases z with
      | nil=>simp[Lib.compareBytes]
      | cons c z=>
        unfold Lib.compareBytes;by_cases h1:a < b
        · by_cases h2:b < c
          · have h3:=UInt8.lt_trans h1 h2;simp[h1,h2,h3]
          · by_cases h4:c < b
            · simp[h1,h2,h4]
            · have h5:b=c:=UInt8.le_antisymm (UInt8.not_lt.1 h4) (UInt8.not_lt.1 h2);subst h5;simp[h1]
        · by_cases h2:b < a
          · simp[h1,h2]
          · have h5:a=b:=UInt8.le_antisymm (UInt8.not_lt.1 h2) (UInt8.not_lt.1 h1);subst h5;simp[h1];by_cases h3:a < c
            · simp[h3]
            · by_cases h4:c < a
              · simp[h3,h4]
              · simp[h3,h4];exact ih y z
end Go.Proofs.YtfddbnmfllgifaaGreatDoor
