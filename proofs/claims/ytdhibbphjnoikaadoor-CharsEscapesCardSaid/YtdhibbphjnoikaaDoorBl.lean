/-
  The walks of Class, both.
-/
import Derived.Test.YtdhibbphjnoikaaDoorBk
import Derived.Outline
namespace Go.Proofs.YtdhibbphjnoikaaDoor
open Go.RowKit
/-- does the row hold the character -/
def hasR (s : ByteArray) (c : Int) : Bool := decide (0 ≤ Lib.indexByte s.data.toList c.toNat.toUInt8)
set_option maxHeartbeats 1000000 in
theorem row_any (k : Int) (s : ByteArray) (b : Nat) (c : Int) (w : World) (h0 : 0 ≤ c) (h1 : c ≤ 255) (hb : b < w.heap.size) (hc : w.cell? ⟨b, 0, none⟩ = some (.int .i64 c)) :
    Calls Tryd.prog 32 #[.agg #[.int .i64 k, .string s], .pointer (some ⟨b, 0, none⟩)] w fun e w' => e = .returned (.bool (hasR s c)) ∧ Below w.heap.size w w' := by
  go_enter Tryd.func32, Tryd.ntmps32
  go_wp2_with fail
  refine (Tryd.strings_IndexByte s c _).mono ?_
  rintro e w1 ⟨rfl, rfl⟩
  have HE := Lib.hid (show hasR s c = decide (0 ≤ Lib.indexByte s.data.toList c.toNat.toUInt8) from rfl)
  generalize Lib.indexByte s.data.toList c.toNat.toUInt8 = i at *
  go_wp2_with fail
  go_ret
  exact ⟨ret_bool HE.out.symm, bAlloc _ _⟩
abbrev Row := Int × ByteArray
def RowCells (w : World) (b o : Nat) (x : Row) : Prop := w.cell? ⟨b, o, none⟩ = some (.int .i64 x.1) ∧ w.cell? ⟨b, o + 1, none⟩ = some (.string x.2)
def RowsAt (w : World) (b : Nat) (R : List Row) : Prop := ∀ i x, R[i]? = some x → RowCells w b (i * 2) x
theorem RowsAt.below {w w' : World} {B b : Nat} {R : List Row} (h : RowsAt w b R) (hB : b < B) (hb : Below B w w') : RowsAt w' b R := fun i x hx =>
  ⟨(hb.cell (p := ⟨b, _, none⟩) hB).trans (h i x hx).1, (hb.cell (p := ⟨b, _, none⟩) hB).trans (h i x hx).2⟩
/-- the first row that holds it -/
def fidx (R : List Row) (c : Int) : Int := match R.findIdx? (fun r => hasR r.2 c) with | some k => k | none => -1
theorem fidx_yes {R : List Row} {c : Int} {k : Nat} (hk : k < R.length) (hp : ∀ j (hj : j < R.length), j < k → hasR R[j].2 c = false) (h : hasR R[k].2 c = true) : fidx R c = k := by
  unfold fidx
  rw [List.findIdx?_eq_some_iff_getElem.2 ⟨hk, h, fun j hj => by simp [hp j (by omega) hj]⟩]
theorem fidx_no {R : List Row} {c : Int} (hp : ∀ j (hj : j < R.length), hasR R[j].2 c = false) : fidx R c = -1 := by
  unfold fidx
  rw [List.findIdx?_eq_none_iff.2 fun x hx => by obtain ⟨j, hj, rfl⟩ := List.mem_iff_getElem.1 hx; exact hp j hj]
theorem fidx_le (R : List Row) (c : Int) : fidx R c = -1 ∨ ∃ k : Nat, k < R.length ∧ fidx R c = k := by
  unfold fidx
  cases h : R.findIdx? (fun r => hasR r.2 c) with
  | none => exact .inl rfl
  | some k => exact .inr ⟨k, (List.findIdx?_eq_some_iff_getElem.1 h).1, rfl⟩
set_option maxHeartbeats 1000000 in
theorem rows_any (b bc : Nat) (R : List Row) (c : Int) (w : World) (h0 : 0 ≤ c) (h1 : c ≤ 255) (hR : R.length ≤ 1000) (hb : b < w.heap.size) (hbc : bc < w.heap.size) (hr : RowsAt w b R) (hc : w.cell? ⟨bc, 0, none⟩ = some (.int .i64 c)) :
    Calls Tryd.prog 31 #[.slice (some ⟨b, 0, none⟩) R.length R.length, .func (.func 32) #[] #[.pointer (some ⟨bc, 0, none⟩)]] w fun e w' => e = .returned (.int .i64 (fidx R c)) ∧ Below w.heap.size w w' := by
  have HR := Lib.hid hr
  have HC := Lib.hid hc
  clear hr hc
  generalize hn : R.length = n at *
  go_enter Tryd.func31, Tryd.ntmps31
  go_wp2_with fail
  go_loopw [8] (fun i wr => ∃ k : Nat, k ≤ n ∧ i = .int .i64 (k : Int) ∧ Hid (∀ j (hj : j < R.length), j < k → hasR R[j].2 c = false) ∧ Hid (Below w.heap.size w wr)) (fun i _ => n - (intOf i).toNat)
  case atStart => exact ⟨0, by omega, rfl, Lib.hid fun _ _ h => absurd h (by omega), Lib.hid (Below.refl _ _)⟩
  case round =>
    obtain ⟨k, hk, rfl, HP, HW⟩ := hrel
    by_cases hlt : k < n
    · have hx : R[k]? = some R[k] := List.getElem?_eq_getElem _
      obtain ⟨c0, c1⟩ := (HR.out.below hb HW.out) k _ hx
      have cc := (HW.out.cell (p := ⟨bc, 0, none⟩) hbc).trans HC.out
      have zb : b < wr.heap.size := by have := HW.out.size; omega
      have zc : bc < wr.heap.size := by have := HW.out.size; omega
      obtain ⟨x, hxk⟩ : ∃ x, R[k] = x := ⟨_, rfl⟩
      have HX := Lib.hid (fun (j : Nat) (hj : j < R.length) (e : j = k) => (show R[j] = x from (getElem_congr_idx e).trans hxk))
      rw [hxk] at c0 c1
      clear hx hxk
      cases h : hasR x.2 c
      · have HF := Lib.hid h
        go_wp2_with fail
        refine (row_any _ _ _ _ _ h0 h1 zc cc).mono ?_
        rintro e w1 ⟨rfl, HW1⟩
        rw [h]
        replace HW1 := Lib.hid (bNext HW.out HW1)
        clear h
        go_wp2_with fail
        exact ⟨⟨k + 1, by omega, by go_num, Lib.hid fun j hj hjk => by
          rcases Nat.lt_or_ge j k with g | g
          · exact HP.out j hj g
          · rw [HX.out j hj (by omega)]; exact HF.out, Lib.hid HW1.out⟩, by simp [intOf]; omega⟩
      · have HF := Lib.hid (fidx_yes (R := R) (c := c) (k := k) (by omega) HP.out (by rw [HX.out k (by omega) rfl]; exact h))
        go_wp2_with fail
        refine (row_any _ _ _ _ _ h0 h1 zc cc).mono ?_
        rintro e w1 ⟨rfl, HW1⟩
        rw [h]
        replace HW1 := Lib.hid (bNext HW.out HW1)
        clear h
        go_wp2_with fail
        go_ret
        exact ⟨ret_i64 HF.out.symm, HW1.out⟩
    · have HF := Lib.hid (fidx_no (R := R) (c := c) fun j hj => HP.out j hj (by omega))
      go_wp2_with fail
      go_ret
      exact ⟨ret_i64 HF.out.symm, HW.out⟩
def rows7 : List Row := [
  (1, ⟨#[9, 10, 11, 12, 13, 32]⟩),
  (2, ⟨#[97, 98, 99, 100, 101, 102, 103, 104, 105, 106, 107, 108, 109, 110, 111, 112, 113, 114, 115, 116, 117, 118, 119, 120, 121, 122]⟩),
  (3, ⟨#[65, 66, 67, 68, 69, 70, 71, 72, 73, 74, 75, 76, 77, 78, 79, 80, 81, 82, 83, 84, 85, 86, 87, 88, 89, 90, 95]⟩),
  (4, ⟨#[48, 49, 50, 51, 52, 53, 54, 55, 56, 57]⟩),
  (5, ⟨#[35, 36, 38, 42, 43, 45, 46, 47, 58, 60, 61, 62, 63, 64, 94, 126, 92]⟩),
  (6, ⟨#[33, 40, 41, 44, 59, 91, 93, 123, 125, 37, 124]⟩),
  (7, ⟨#[39, 34, 96]⟩)]
/-- the class of a character -/
def clsP (c : Int) : Int := if chr c = false then 0 else match rows7.findIdx? (fun r => hasR r.2 c) with | some k => k + 1 | none => 8
theorem cls_out {c : Int} (h : chr c = false) : clsP c = 0 := if_pos h
theorem cls_no {c : Int} (h : chr c = true) (hf : fidx rows7 c = -1) : clsP c = 8 := by
  unfold clsP; unfold fidx at hf
  rw [if_neg (by rw [h]; decide)]
  split at hf
  · omega
  · rfl
theorem cls_yes {c : Int} (h : chr c = true) {k : Int} (hk : 0 ≤ k) (hf : fidx rows7 c = k) : clsP c = k + 1 := by
  unfold clsP; unfold fidx at hf
  rw [if_neg (by rw [h]; decide)]
  split at hf
  · omega
  · omega
/-- the cells of the table of rows -/
def rowsC : Array Value := #[.int .i64 1, .string ⟨#[9, 10, 11, 12, 13, 32]⟩,
  .int .i64 2, .string ⟨#[97, 98, 99, 100, 101, 102, 103, 104, 105, 106, 107, 108, 109, 110, 111, 112, 113, 114, 115, 116, 117, 118, 119, 120, 121, 122]⟩,
  .int .i64 3, .string ⟨#[65, 66, 67, 68, 69, 70, 71, 72, 73, 74, 75, 76, 77, 78, 79, 80, 81, 82, 83, 84, 85, 86, 87, 88, 89, 90, 95]⟩,
  .int .i64 4, .string ⟨#[48, 49, 50, 51, 52, 53, 54, 55, 56, 57]⟩,
  .int .i64 5, .string ⟨#[35, 36, 38, 42, 43, 45, 46, 47, 58, 60, 61, 62, 63, 64, 94, 126, 92]⟩,
  .int .i64 6, .string ⟨#[33, 40, 41, 44, 59, 91, 93, 123, 125, 37, 124]⟩,
  .int .i64 7, .string ⟨#[39, 34, 96]⟩]
theorem rows_new (w : World) (n : Nat) (hn : n = w.heap.size) : RowsAt (w.alloc (.cells rowsC 46)) n rows7 := fun i x hx => by
  subst hn
  have hi : i < 7 := (List.getElem?_eq_some_iff.1 hx).1
  have h7 : i = 0 ∨ i = 1 ∨ i = 2 ∨ i = 3 ∨ i = 4 ∨ i = 5 ∨ i = 6 := by omega
  rcases h7 with rfl | rfl | rfl | rfl | rfl | rfl | rfl
  all_goals
    simp only [rows7, List.getElem?_cons_zero, List.getElem?_cons_succ, Option.some.injEq] at hx
    subst hx
    constructor
    all_goals simp [rowsC]
set_option maxHeartbeats 2000000 in
theorem class_any (c : Int) (w : World) : Calls Tryd.prog 19 #[.int .i64 c] w fun e w' => e = .returned (.int .i64 (clsP c)) ∧ Below w.heap.size w w' := by
  cases hc : chr c
  · have HE := Lib.hid (cls_out hc)
    go_enter Tryd.func19, Tryd.ntmps19
    go_wp2_with fail
    refine (is_any c _).mono ?_
    rintro e w1 ⟨rfl, rfl⟩
    rw [hc]
    go_wp2_with fail
    go_ret
    exact ⟨ret_i64 HE.out.symm, bAlloc _ _⟩
  obtain ⟨c0, c1⟩ := chr_iff.1 hc
  have HC := Lib.hid hc
  clear hc
  go_enter Tryd.func19, Tryd.ntmps19
  go_wp2_with fail
  refine (is_any c _).mono ?_
  rintro e w1 ⟨rfl, rfl⟩
  rw [HC.out]
  go_wp2_with fail
  refine (rows_any (w.heap.size + 1) w.heap.size rows7 c _ c0 c1 (by decide) (by simp) (by simp; omega) (rows_new (w.alloc _) _ (by simp)) ?_).mono ?_
  · exact ((bAlloc (w.alloc _) _).cell (p := ⟨w.heap.size, 0, none⟩) (by simp)).trans (by simp)
  rintro e w1 ⟨rfl, HW⟩
  have hrw : RowsAt w1 (w.heap.size + 1) rows7 := (rows_new (w.alloc (.cells #[.int .i64 c] 3)) _ (by simp)).below (by simp) HW
  have hsz := HW.size
  simp at hsz
  have zb : w.heap.size + 1 < w1.heap.size := by omega
  replace HW := Lib.hid (bStart (bStart HW))
  rcases fidx_le rows7 c with hf | ⟨k, hk, hf⟩
  · have HE := Lib.hid (cls_no HC.out hf)
    rw [hf]
    clear hf hrw
    go_wp2_with fail
    go_ret
    exact ⟨ret_i64 HE.out.symm, HW.out⟩
  · have h7 : k = 0 ∨ k = 1 ∨ k = 2 ∨ k = 3 ∨ k = 4 ∨ k = 5 ∨ k = 6 := by have : k < 7 := hk; omega
    clear hk
    rw [hf]
    rcases h7 with rfl | rfl | rfl | rfl | rfl | rfl | rfl
    · have HE := Lib.hid (cls_yes HC.out (by decide) hf)
      have hcell := (hrw 0 _ rfl).1
      clear hf hrw
      go_wp2_with fail
      go_ret
      exact ⟨ret_i64 HE.out.symm, HW.out⟩
    · have HE := Lib.hid (cls_yes HC.out (by decide) hf)
      have hcell := (hrw 1 _ rfl).1
      clear hf hrw
      go_wp2_with fail
      go_ret
      exact ⟨ret_i64 HE.out.symm, HW.out⟩
    · have HE := Lib.hid (cls_yes HC.out (by decide) hf)
      have hcell := (hrw 2 _ rfl).1
      clear hf hrw
      go_wp2_with fail
      go_ret
      exact ⟨ret_i64 HE.out.symm, HW.out⟩
    · have HE := Lib.hid (cls_yes HC.out (by decide) hf)
      have hcell := (hrw 3 _ rfl).1
      clear hf hrw
      go_wp2_with fail
      go_ret
      exact ⟨ret_i64 HE.out.symm, HW.out⟩
    · have HE := Lib.hid (cls_yes HC.out (by decide) hf)
      have hcell := (hrw 4 _ rfl).1
      clear hf hrw
      go_wp2_with fail
      go_ret
      exact ⟨ret_i64 HE.out.symm, HW.out⟩
    · have HE := Lib.hid (cls_yes HC.out (by decide) hf)
      have hcell := (hrw 5 _ rfl).1
      clear hf hrw
      go_wp2_with fail
      go_ret
      exact ⟨ret_i64 HE.out.symm, HW.out⟩
    · have HE := Lib.hid (cls_yes HC.out (by decide) hf)
      have hcell := (hrw 6 _ rfl).1
      clear hf hrw
      go_wp2_with fail
      go_ret
      exact ⟨ret_i64 HE.out.symm, HW.out⟩
end Go.Proofs.YtdhibbphjnoikaaDoor
