/-
  Plain: two streams that read the same file.
-/
import Derived.Test.YtklpghpfdeojeaaCd
namespace Go.Proofs.Ytklpghpfdeojeaa
open Go.RowKit

@[reducible] def apX (n : Int) (a : ByteArray) (pos : Int) : G := ⟨n, fN, 1, pos, a, 3, false⟩
@[reducible] def Ra (t : ByteArray) : Sm := ⟨F3 t, [gIn, gOut, apX 2 ⟨#[97]⟩ 0], 0, 1, 3⟩
@[reducible] def Ap (t : ByteArray) (p q : Nat) : Sm := ⟨F3 t, [gIn, gOut, apX 2 ⟨#[97]⟩ p, apX 3 ⟨#[98]⟩ q], 0, 1, 4⟩
theorem open_a (t : ByteArray) (ht : t.size ≤ 16384) : openV (S0 t) fN 1 ⟨#[97]⟩ 3 = .ok (Ra t, 2) := by
  have h1 : namedB fN = true := by decide +kernel
  have h2 : idxI (S0 t).opn (apP (openX (S0 t) fN 1 ⟨#[97]⟩ 3)) = -1 := by kernel_rfl
  have h4 : openF (F3 t) fN 1 = F3 t := openF_keep (by rw [idx_f]; omega) rfl
  rw [openV_go (by unfold openArg; rw [valid_S0 ht, h1]; decide +kernel)]
  show (if decide (idxI (F3 t) (fileP fN) < 0) && (1 : Int) == 1 then Except.error 4 else if 0 ≤ idxI (S0 t).opn (apP (openX (S0 t) fN 1 ⟨#[97]⟩ 3)) then Except.error 5 else if openFull (S0 t) fN then Except.error 13 else Except.ok (openS (S0 t) fN 1 ⟨#[97]⟩ 3, (2 : Int))) = _
  have h3 : openFull (S0 t) fN = false := by
    unfold openFull
    show (decide ((16 : Int) ≤ (2 : Nat)) || (2 : Int) == 1073741824 || (decide (idxI (F3 t) (fileP fN) < 0) && decide ((16 : Int) ≤ (3 : Nat)))) = false
    rw [idx_f]
    rfl
  rw [idx_f, h2, h3]
  show Except.ok (openS (S0 t) fN 1 ⟨#[97]⟩ 3, (2 : Int)) = _
  unfold openS
  rw [h4]
  rfl
theorem open_b (t : ByteArray) (ht : t.size ≤ 16384) : openV (Ra t) fN 1 ⟨#[98]⟩ 3 = .ok (Ap t 0 0, 3) := by
  have h1 : namedB fN = true := by decide +kernel
  have h2 : idxI (Ra t).opn (apP (openX (Ra t) fN 1 ⟨#[98]⟩ 3)) = -1 := by kernel_rfl
  have h4 : openF (F3 t) fN 1 = F3 t := openF_keep (by rw [idx_f]; omega) rfl
  rw [openV_go (by unfold openArg; rw [open_valid (open_a t ht), h1]; decide +kernel)]
  show (if decide (idxI (F3 t) (fileP fN) < 0) && (1 : Int) == 1 then Except.error 4 else if 0 ≤ idxI (Ra t).opn (apP (openX (Ra t) fN 1 ⟨#[98]⟩ 3)) then Except.error 5 else if openFull (Ra t) fN then Except.error 13 else Except.ok (openS (Ra t) fN 1 ⟨#[98]⟩ 3, (3 : Int))) = _
  have h3 : openFull (Ra t) fN = false := by
    unfold openFull
    show (decide ((16 : Int) ≤ (3 : Nat)) || (3 : Int) == 1073741824 || (decide (idxI (F3 t) (fileP fN) < 0) && decide ((16 : Int) ≤ (3 : Nat)))) = false
    rw [idx_f]
    rfl
  rw [idx_f, h2, h3]
  show Except.ok (openS (Ra t) fN 1 ⟨#[98]⟩ 3, (3 : Int)) = _
  unfold openS
  rw [h4]
  rfl
section
variable {t : ByteArray} {p q : Nat}
theorem file_ap (x : G) (hx : x.file = fN) : fileOf (Ap t p q) x = ⟨fN, t⟩ := by
  unfold fileOf
  rw [hx]
  show (match (F3 t)[(idxI (F3 t) (fileP fN)).toNat]? with | some f => f | none => ⟨.empty, .empty⟩) = _
  rw [idx_f]
  rfl
theorem read_a (hv : validB (Ap t p q) = true) : readV (Ap t p q) 2 true = .ok 2 := by
  unfold readV askV
  rw [hv]
  rfl
theorem read_b (hv : validB (Ap t p q) = true) : readV (Ap t p q) 3 true = .ok 3 := by
  unfold readV askV
  rw [hv]
  rfl
theorem rest_a (hv : validB (Ap t p q) = true) : restV (Ap t p q) 2 true = t.extract p t.size ∧ errOf (readV (Ap t p q) 2 true) = 0 := by
  refine ⟨?_, by rw [read_a hv]; rfl⟩
  unfold restV
  rw [read_a hv]
  show restT (Ap t p q) (apX 2 ⟨#[97]⟩ p) = _
  unfold restT
  rw [file_ap _ rfl]
  rfl
theorem rest_b (hv : validB (Ap t p q) = true) : restV (Ap t p q) 3 true = t.extract q t.size ∧ errOf (readV (Ap t p q) 3 true) = 0 := by
  refine ⟨?_, by rw [read_b hv]; rfl⟩
  unfold restV
  rw [read_b hv]
  show restT (Ap t p q) (apX 3 ⟨#[98]⟩ q) = _
  unfold restT
  rw [file_ap _ rfl]
  rfl
theorem get_ap (n : Int) (a : ByteArray) (i : Nat) : getG (wantC t i) (apX n a i) = apX n a (if i < t.size then i + 1 else i : Nat) := by
  by_cases h : i < t.size
  · have hw : 0 ≤ wantC t i := by unfold wantC; rw [dif_pos h]; omega
    unfold getG
    rw [if_pos hw, if_pos h]
    simp
  · have hw : ¬ 0 ≤ wantC t i := by unfold wantC; rw [dif_neg h]; omega
    unfold getG
    rw [if_neg hw, if_neg h]
    rfl
theorem get_a (hv : validB (Ap t p q) = true) : getV (Ap t p q) 2 = .ok (Ap t (if p < t.size then p + 1 else p) q, wantC t p) := by
  unfold getV
  rw [read_a hv]
  show Except.ok (({ Ap t p q with opn := (Ap t p q).opn.set 2 (getG (getC (restT (Ap t p q) (apX 2 ⟨#[97]⟩ p))) (apX 2 ⟨#[97]⟩ p)) } : Sm), getC (restT (Ap t p q) (apX 2 ⟨#[97]⟩ p))) = _
  have h : restT (Ap t p q) (apX 2 ⟨#[97]⟩ p) = t.extract p t.size := by
    unfold restT
    rw [file_ap _ rfl]
    rfl
  rw [h, get_extract, get_ap]
  rfl
theorem get_b (hv : validB (Ap t p q) = true) : getV (Ap t p q) 3 = .ok (Ap t p (if q < t.size then q + 1 else q), wantC t q) := by
  unfold getV
  rw [read_b hv]
  show Except.ok (({ Ap t p q with opn := (Ap t p q).opn.set 3 (getG (getC (restT (Ap t p q) (apX 3 ⟨#[98]⟩ q))) (apX 3 ⟨#[98]⟩ q)) } : Sm), getC (restT (Ap t p q) (apX 3 ⟨#[98]⟩ q))) = _
  have h : restT (Ap t p q) (apX 3 ⟨#[98]⟩ q) = t.extract q t.size := by
    unfold restT
    rw [file_ap _ rfl]
    rfl
  rw [h, get_extract, get_ap]
  rfl
theorem find_ap (hv : validB (Ap t p q) = true) : findV (Ap t p q) ⟨#[97]⟩ = some 2 ∧ findV (Ap t p q) ⟨#[98]⟩ = some 3 := by
  have h1 : (Ap t p q).opn.findIdx? (aliasP ⟨#[97]⟩) = some 2 := by kernel_rfl
  have h2 : (Ap t p q).opn.findIdx? (aliasP ⟨#[98]⟩) = some 3 := by kernel_rfl
  constructor
  · unfold findV
    rw [hv, if_pos (by decide +kernel), h1]
    rfl
  · unfold findV
    rw [hv, if_pos (by decide +kernel), h2]
    rfl
theorem text_f3 {s : Sm} (hv : validB s = true) (hf : s.files = F3 t) : textV s fN = some t := by
  unfold textV
  have h1 : (F3 t).findIdx? (fileP fN) = some 0 := by kernel_rfl
  rw [hv, if_pos rfl, hf, h1]
  rfl
end
end Go.Proofs.Ytklpghpfdeojeaa
