/-
  Plain: a file that is written in parts.
-/
import Derived.Test.YtklpghpfdeojeaaCf
namespace Go.Proofs.Ytklpghpfdeojeaa
open Go.RowKit

@[reducible] def wtX (m : Int) : G := ⟨2, fN, m, 0, ⟨#[]⟩, 2, false⟩
@[reducible] def Wt (a : ByteArray) (m : Int) : Sm := ⟨F3 a, [gIn, gOut, wtX m], 0, 1, 3⟩
theorem set_f3 (t a : ByteArray) : (F3 t).set 0 { (⟨fN, t⟩ : F) with text := a } = F3 a := rfl
theorem openF_2 (t : ByteArray) : openF (F3 t) fN 2 = F3 ⟨#[]⟩ := openF_write (k := 0) (f := ⟨fN, t⟩) (idx_f t) rfl rfl
theorem openF_3 (t : ByteArray) : openF (F3 t) fN 3 = F3 t := openF_keep (by rw [idx_f]; omega) rfl
theorem open_wt (t : ByteArray) (m : Int) (hm : m = 2 ∨ m = 3) (ht : t.size ≤ 16384) : openV (S0 t) fN m ⟨#[]⟩ 2 = .ok (Wt (if m = 2 then ⟨#[]⟩ else t) m, 2) := by
  have h1 : namedB fN = true := by decide +kernel
  have h2 : idxI (S0 t).opn (apP (openX (S0 t) fN m ⟨#[]⟩ 2)) = -1 := by kernel_rfl
  have hk : kindB m = true := by unfold kindB; simp; omega
  have hm1 : (m == 1) = false := by simp; omega
  have h3 : openFull (S0 t) fN = false := by
    unfold openFull
    show (decide ((16 : Int) ≤ (2 : Nat)) || (2 : Int) == 1073741824 || (decide (idxI (F3 t) (fileP fN) < 0) && decide ((16 : Int) ≤ (3 : Nat)))) = false
    rw [idx_f]
    rfl
  rw [openV_go (by unfold openArg; rw [valid_S0 ht, h1, hk]; decide +kernel)]
  show (if decide (idxI (F3 t) (fileP fN) < 0) && m == 1 then Except.error 4 else if 0 ≤ idxI (S0 t).opn (apP (openX (S0 t) fN m ⟨#[]⟩ 2)) then Except.error 5 else if openFull (S0 t) fN then Except.error 13 else Except.ok (openS (S0 t) fN m ⟨#[]⟩ 2, (2 : Int))) = _
  rw [hm1, idx_f, h2, h3]
  show Except.ok (openS (S0 t) fN m ⟨#[]⟩ 2, (2 : Int)) = _
  unfold openS
  rcases hm with rfl | rfl
  · show Except.ok (({ S0 t with files := openF (F3 t) fN 2, opn := [gIn, gOut] ++ [openX (S0 t) fN 2 ⟨#[]⟩ 2], nxt := 2 + 1 } : Sm), (2 : Int)) = _
    rw [openF_2]
    rfl
  · show Except.ok (({ S0 t with files := openF (F3 t) fN 3, opn := [gIn, gOut] ++ [openX (S0 t) fN 3 ⟨#[]⟩ 2], nxt := 2 + 1 } : Sm), (2 : Int)) = _
    rw [openF_3]
    rfl
section
variable {a p : ByteArray} {m : Int}
theorem file_wt : fileOf (Wt a m) (wtX m) = ⟨fN, a⟩ := by
  unfold fileOf
  show (match (F3 a)[(idxI (F3 a) (fileP fN)).toNat]? with | some f => f | none => ⟨.empty, .empty⟩) = _
  rw [idx_f]
  rfl
theorem ask_wt (hv : validB (Wt a m) = true) : askV (Wt a m) 2 true = .ok 2 := by
  unfold askV
  rw [hv]
  rfl
theorem put_long (hp : 16384 < p.size) : putV (Wt a m) 2 p = .error 1 := by
  unfold putV askV
  rw [decide_eq_false (by omega), Bool.and_false]
  rfl
theorem put_wt (hv : validB (Wt a m) = true) (hm : m = 2 ∨ m = 3) (hp : p.size ≤ 16384) : putV (Wt a m) 2 p = if 16384 < a.size + p.size then .error 13 else .ok (Wt (a ++ p) m) := by
  have hm1 : (m == 1) = false := by simp; omega
  unfold putV
  rw [decide_eq_true (by omega), ask_wt hv]
  show (if m == 1 then Except.error 5 else if 16384 < (fileOf (Wt a m) (wtX m)).text.size + p.size then Except.error 13 else Except.ok (putS (Wt a m) (wtX m) p)) = _
  rw [hm1, file_wt]
  have h : putS (Wt a m) (wtX m) p = Wt (a ++ p) m := by
    unfold putS
    rw [file_wt]
    show ({ Wt a m with files := (F3 a).set (idxI (F3 a) (fileP fN)).toNat { (⟨fN, a⟩ : F) with text := a ++ p } } : Sm) = _
    rw [idx_f]
    rfl
  rw [h]
  rfl
theorem close_wt (hv : validB (Wt a m) = true) : closeV (Wt a m) 2 = .ok ⟨F3 a, [gIn, gOut], 0, 1, 3⟩ := by
  unfold closeV
  rw [ask_wt hv]
  rfl
end
end Go.Proofs.Ytklpghpfdeojeaa
