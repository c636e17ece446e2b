/-
  Rows of cells that are read; the walk of SameCells at equal rows.
-/
import Derived.Test.YtpkpffnabcgcbaaFn
namespace Go.Proofs.Ytpkpffnabcgcbaa
open Go.RowKit

/-- a row of cells that is read -/
def CellsAt (w : World) (A : Option Addr) (l : List Cl) : Prop := 0 < l.length → ∃ b off, A = some ⟨b, off, none⟩ ∧ b < w.heap.size ∧ ∀ i x, l[i]? = some x → w.cell? ⟨b, off + i * 2, none⟩ = some (.int .i64 x.tag) ∧ w.cell? ⟨b, off + i * 2 + 1, none⟩ = some (.int .i64 x.n)
theorem CellsAt.next {w w' : World} {A : Option Addr} {l : List Cl} (h : CellsAt w A l) (hb : Below w.heap.size w w') : CellsAt w' A l := fun hn => by
  obtain ⟨b, off, e, hlt, hc⟩ := h hn
  exact ⟨b, off, e, Nat.lt_of_lt_of_le hlt hb.size, fun i x hx => ⟨(hb.cell (p := ⟨b, _, none⟩) hlt).trans (hc i x hx).1, (hb.cell (p := ⟨b, _, none⟩) hlt).trans (hc i x hx).2⟩⟩
theorem own_cellsAt {w : World} {B c : Nat} {A : Option Addr} {l : List Cl} (h : w.ownsRow B 38 2 (.slice A l.length c) l.length (cCs l)) : CellsAt w A l := fun hn => by
  obtain ⟨g, cap, e⟩ := own_head h hn
  injection e with e1 _ e2
  subst e1 e2
  refine ⟨g, 0, rfl, (h.lt g rfl).2, fun i x hx => ?_⟩
  obtain ⟨u0, u1⟩ := cCs_at hx
  rw [Nat.zero_add]
  exact ⟨own_cell h u0, own_cell h u1⟩
theorem c_neq (a b : Int) (w : World) : (binOp .neq 38 (.agg #[.int .i64 a, .int .i64 b]) (.agg #[.int .i64 a, .int .i64 b])).run Try.prog w = .ok (.bool false) w := by
  go_simp
  try simp
set_option maxHeartbeats 2000000 in
theorem sameCells_any {A A' : Option Addr} {c c' : Nat} (l : List Cl) (w : World) (h : CellsAt w A l) (h' : CellsAt w A' l) (hn : l.length ≤ 8796093022208) :
    Calls Try.prog 22 #[.slice A l.length c, .slice A' l.length c'] w fun e w' => e = .returned (.bool true) ∧ Below w.heap.size w w' := by
  have H := Lib.hid h
  have H' := Lib.hid h'
  clear h h'
  go_enter Try.func22, Try.ntmps22
  go_wp2_with fail
  go_loopw [5] (fun i wr => ∃ k : Nat, k ≤ l.length ∧ i = .int .i64 (k : Int) ∧ Hid (Below w.heap.size w wr)) (fun i _ => l.length - (intOf i).toNat)
  case atStart => exact ⟨0, by omega, rfl, Lib.hid (Below.refl _ _)⟩
  case round =>
    obtain ⟨k, hk, rfl, HB⟩ := hrel
    by_cases hlt : k < l.length
    · obtain ⟨x, hx⟩ : ∃ x, l[k]? = some x := ⟨_, List.getElem?_eq_getElem hlt⟩
      obtain ⟨b, off, rfl, hb, hc⟩ := (H.out.next HB.out) (by omega)
      obtain ⟨b', off', rfl, hb', hc'⟩ := (H'.out.next HB.out) (by omega)
      obtain ⟨x0, x1⟩ := hc k x hx
      obtain ⟨y0, y1⟩ := hc' k x hx
      have te := c_neq
      clear hc hc'
      go_upto_region 6 with fail
      refine wp_region_N (fun w' => (w'.cell? ⟨b, off + k * 2, none⟩ = some (.int .i64 x.tag) ∧ w'.cell? ⟨b, off + k * 2 + 1, none⟩ = some (.int .i64 x.n)) ∧ w'.cell? ⟨b', off' + k * 2, none⟩ = some (.int .i64 x.tag) ∧ w'.cell? ⟨b', off' + k * 2 + 1, none⟩ = some (.int .i64 x.n)) (fun _ => true) (by kernel_rfl) ?_
      have hS0 : (fun w' => (w'.cell? ⟨b, off + k * 2, none⟩ = some (.int .i64 x.tag) ∧ w'.cell? ⟨b, off + k * 2 + 1, none⟩ = some (.int .i64 x.n)) ∧ w'.cell? ⟨b', off' + k * 2, none⟩ = some (.int .i64 x.tag) ∧ w'.cell? ⟨b', off' + k * 2 + 1, none⟩ = some (.int .i64 x.n)) wr.drew := ⟨⟨x0, x1⟩, y0, y1⟩
      refine wpAnyN_take (i := 0) (v := ?v1) rfl (by kernel_rfl) (by kernel_rfl) (by kernel_rfl) (by kernel_rfl) (fun _ _ _ h => h) (Or.inl ⟨by rfl, ?hy1⟩) (by assumption) ?_
      case hy1 => intro w hSw; obtain ⟨⟨s0, s1⟩, s2, s3⟩ := hSw; go_simp; try with_reducible rfl
      simp only [Act.put, List.getElem_toArray, List.getElem_cons_zero, List.setIfInBounds_toArray, List.set_cons_zero, List.set_cons_succ]
      refine wpAnyN_take (i := 1) (v := ?v2) rfl (by kernel_rfl) (by kernel_rfl) (by kernel_rfl) (by kernel_rfl) (fun _ _ _ h => h) (Or.inl ⟨by rfl, ?hy2⟩) (by assumption) ?_
      case hy2 => intro w hSw; obtain ⟨⟨s0, s1⟩, s2, s3⟩ := hSw; go_simp; try with_reducible rfl
      simp only [Act.put, List.getElem_toArray, List.getElem_cons_zero, List.getElem_cons_succ, List.setIfInBounds_toArray, List.set_cons_zero, List.set_cons_succ]
      refine wpAnyN_take (i := 2) (v := ?v3) rfl (by kernel_rfl) (by kernel_rfl) (by kernel_rfl) (by kernel_rfl) (fun _ _ _ h => h) (Or.inl ⟨by rfl, ?hy3⟩) (by assumption) ?_
      case hy3 => intro w hSw; obtain ⟨⟨s0, s1⟩, s2, s3⟩ := hSw; go_simp; try with_reducible rfl
      simp only [Act.put, List.getElem_toArray, List.getElem_cons_zero, List.getElem_cons_succ, List.setIfInBounds_toArray, List.set_cons_zero, List.set_cons_succ]
      refine wpAnyN_take (i := 3) (v := ?v4) rfl (by kernel_rfl) (by kernel_rfl) (by kernel_rfl) (by kernel_rfl) (fun _ _ _ h => h) (Or.inl ⟨by rfl, ?hy4⟩) (by assumption) ?_
      case hy4 => intro w hSw; obtain ⟨⟨s0, s1⟩, s2, s3⟩ := hSw; go_simp; try with_reducible rfl
      simp only [Act.put, List.getElem_toArray, List.getElem_cons_zero, List.getElem_cons_succ, List.setIfInBounds_toArray, List.set_cons_zero, List.set_cons_succ]
      refine wpAnyN_take (i := 4) (v := ?v5) rfl (by kernel_rfl) (by kernel_rfl) (by kernel_rfl) (by kernel_rfl) (fun _ _ _ h => h) (Or.inl ⟨by rfl, ?hy5⟩) (by assumption) ?_
      case hy5 => intro w hSw; obtain ⟨⟨s0, s1⟩, s2, s3⟩ := hSw; go_simp; try with_reducible rfl
      simp only [Act.put, List.getElem_toArray, List.getElem_cons_zero, List.getElem_cons_succ, List.setIfInBounds_toArray, List.set_cons_zero, List.set_cons_succ]
      refine wpAnyN_take (i := 5) (v := ?v6) rfl (by kernel_rfl) (by kernel_rfl) (by kernel_rfl) (by kernel_rfl) (fun _ _ _ h => h) (Or.inl ⟨by rfl, ?hy6⟩) (by assumption) ?_
      case hy6 => intro w hSw; obtain ⟨⟨s0, s1⟩, s2, s3⟩ := hSw; go_simp; try with_reducible rfl
      simp only [Act.put, List.getElem_toArray, List.getElem_cons_zero, List.getElem_cons_succ, List.setIfInBounds_toArray, List.set_cons_zero, List.set_cons_succ]
      refine wpAnyN_take (i := 6) (v := ?v7) rfl (by kernel_rfl) (by kernel_rfl) (by kernel_rfl) (by kernel_rfl) (fun _ _ _ h => h) (Or.inl ⟨by rfl, ?hy7⟩) (by assumption) ?_
      case hy7 => intro w hSw; obtain ⟨⟨s0, s1⟩, s2, s3⟩ := hSw; go_simp; try with_reducible rfl
      simp only [Act.put, List.getElem_toArray, List.getElem_cons_zero, List.getElem_cons_succ, List.setIfInBounds_toArray, List.set_cons_zero, List.set_cons_succ]
      refine wpAnyN_take (i := 7) (v := ?v8) rfl (by kernel_rfl) (by kernel_rfl) (by kernel_rfl) (by kernel_rfl) (fun _ _ _ h => h) (Or.inl ⟨by rfl, ?hy8⟩) (by assumption) ?_
      case hy8 => intro w hSw; obtain ⟨⟨s0, s1⟩, s2, s3⟩ := hSw; go_simp; try with_reducible rfl
      simp only [Act.put, List.getElem_toArray, List.getElem_cons_zero, List.getElem_cons_succ, List.setIfInBounds_toArray, List.set_cons_zero, List.set_cons_succ]
      refine wpAnyN_take (i := 8) (v := ?v9) rfl (by kernel_rfl) (by kernel_rfl) (by kernel_rfl) (by kernel_rfl) (fun _ _ _ h => h) (Or.inl ⟨by rfl, ?hy9⟩) (by assumption) ?_
      case hy9 => intro w hSw; obtain ⟨⟨s0, s1⟩, s2, s3⟩ := hSw; go_simp; try with_reducible rfl
      simp only [Act.put, List.getElem_toArray, List.getElem_cons_zero, List.getElem_cons_succ, List.setIfInBounds_toArray, List.set_cons_zero, List.set_cons_succ]
      refine wpAnyN_done (by kernel_rfl) ?_ _
      clear te x0 x1 y0 y1
      go_wp2_with fail
      exact ⟨⟨k + 1, by omega, by go_num, Lib.hid (bDrewN HB.out 1)⟩, by simp [intOf]; omega⟩
    · go_wp2_with fail
      go_ret
      exact ⟨rfl, HB.out⟩
end Go.Proofs.Ytpkpffnabcgcbaa
