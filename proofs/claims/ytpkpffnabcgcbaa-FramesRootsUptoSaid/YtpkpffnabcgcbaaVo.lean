/-
  Memory for the arms of the law FramesViews: a view's first environment; it is trimmed, set; views besides stay.
-/
import Derived.Test.YtpkpffnabcgcbaaVe
import Derived.Test.YtpkpffnabcgcbaaVh
import Derived.Test.YtpkpffnabcgcbaaVl
namespace Go.Proofs.Ytpkpffnabcgcbaa
open Go.RowKit

section
variable {w w' : World} {B : Nat} {l rest : List En} {z : En} {v : Value} {ys : List Value}
/-- the first environment of a view -/
theorem RowE.head (h : RowE w B (z :: rest) v ys) : ∃ g c u ys', v = .slice (some ⟨g, 0, none⟩) (rest.length + 1) c ∧ ys = u :: ys' ∧ ys'.length = rest.length ∧ g < w.heap.size ∧ B ≤ g ∧ rest.length + 1 ≤ c ∧
    w.cell? ⟨g, 0 + 1, none⟩ = some (.int .i64 z.id) ∧ w.cell? ⟨g, 0 + 2, none⟩ = some (.int .i64 z.pc) ∧ w.cell? ⟨g, 0 + 3, none⟩ = some u ∧ w.frozen? ⟨g, 0 + 3, none⟩ = false ∧ w.ownsRow B 38 2 u z.y.length (cCs z.y) := by
  obtain ⟨g, c, e⟩ := own_head h.row (by simp)
  subst e
  have hyl := h.ylen
  match ys, hyl, h with
  | [], hyl, _ => simp at hyl
  | u :: ys', hyl, h =>
    obtain ⟨A2, c2, e2, hc2⟩ := own_form h.row
    injection e2 with e3 _ e4
    subst e3 e4
    have hlt := h.row.lt g rfl
    exact ⟨g, c, u, ys', rfl, rfl, by simpa using hyl, hlt.2, hlt.1, hc2.1, own_cell h.row (j := 1) rfl, own_cell h.row (j := 2) rfl, own_cell h.row (j := 3) rfl, h.row.frozenAt 3, h.yrow 0 z u rfl rfl⟩
/-- the list of the first environment is cut -/
theorem RowE.trim0 {g c cy m : Nat} {Ay : Option Addr} (h : RowE w B (z :: rest) (.slice (some ⟨g, 0, none⟩) (rest.length + 1) c) (.slice Ay z.y.length cy :: ys)) (hm : m ≤ z.y.length) :
    RowE (w.setCell ⟨g, 0 + 3, none⟩ (.slice Ay m cy)) B ({ z with y := z.y.take m } :: rest) (.slice (some ⟨g, 0, none⟩) (rest.length + 1) c) (.slice Ay m cy :: ys) ∧ w.grownBy (w.setCell ⟨g, 0 + 3, none⟩ (.slice Ay m cy)) (some g) := by
  obtain ⟨o1, g1⟩ := h.row.stored 3 (.slice Ay m cy)
  have hfar : ∀ {u : Value} {n : Nat} {xs : List Value}, w.ownsRow B 38 2 u n xs → (w.setCell ⟨g, 0 + 3, none⟩ (.slice Ay m cy)).ownsRow B 38 2 u n xs := fun k => own_far2 k h.row (by decide) g1
  refine ⟨⟨o1, h.ylen, fun i x u hx hu => ?_, ?_⟩, g1⟩
  · cases i with
    | zero =>
      simp at hx hu
      subst hx hu
      have := own_cut (hfar (h.yrow 0 z _ rfl rfl)) hm
      rw [show (z.y.take m).length = m by rw [List.length_take]; omega]
      rwa [cCs_take] at this
    | succ i => exact hfar (h.yrow (i + 1) x u hx hu)
  · have := h.nodup
    cases Ay <;> exact this
/-- a cell of the first environment's list is set -/
theorem RowE.set0 {g c gy cy m : Nat} (h : RowE w B (z :: rest) (.slice (some ⟨g, 0, none⟩) (rest.length + 1) c) (.slice (some ⟨gy, 0, none⟩) z.y.length cy :: ys)) (hm : m < z.y.length) (cl : Cl) :
    RowE ((w.setCell ⟨gy, 0 + m * 2, none⟩ (.int .i64 cl.tag)).setCell ⟨gy, 0 + m * 2 + 1, none⟩ (.int .i64 cl.n)) B ({ z with y := z.y.set m cl } :: rest) (.slice (some ⟨g, 0, none⟩) (rest.length + 1) c) (.slice (some ⟨gy, 0, none⟩) z.y.length cy :: ys) ∧
      w.grownBy ((w.setCell ⟨gy, 0 + m * 2, none⟩ (.int .i64 cl.tag)).setCell ⟨gy, 0 + m * 2 + 1, none⟩ (.int .i64 cl.n)) (some gy) := by
  rw [Nat.zero_add]
  have hy := h.yrow 0 z _ rfl rfl
  obtain ⟨o1, g1⟩ := hy.stored (m * 2) (.int .i64 cl.tag)
  obtain ⟨o2, g2⟩ := o1.stored (m * 2 + 1) (.int .i64 cl.n)
  rw [cCs_set cl hm] at o2
  have gg := g1.trans g2
  have hrow : w.ownsRow B 54 4 _ _ (eCs ({ z with y := z.y.set m cl } :: rest) (.slice (some ⟨gy, 0, none⟩) z.y.length cy :: ys)) := h.row
  refine ⟨⟨own_far2 hrow hy (by decide) gg, h.ylen, fun i x u hx hu => ?_, h.nodup⟩, gg⟩
  cases i with
  | zero =>
    simp at hx hu
    subst hx hu
    rw [List.length_set]
    exact o2
  | succ i =>
    have hk := h.yrow (i + 1) x u hx hu
    refine own_stay hk fun k hg => gg.block k (hk.lt k hg).2 fun e => ?_
    injection e with e
    subst e
    have hn := h.nodup
    have hn : (k :: ys.filterMap Value.ownBlock).Nodup := hn
    rw [List.nodup_cons] at hn
    exact hn.1 (List.mem_filterMap.2 ⟨u, List.mem_of_getElem? hu, hg⟩)
end
theorem drawn (w : World) (n : Nat) : Below w.heap.size w (w.drewN n) := ⟨rfl, rfl, rfl, Nat.le_refl _, fun _ _ => rfl⟩
/-- where some blocks of the view are changed, stacks and rows of views stay -/
theorem VW.touch {w w' : World} {B q : Nat} {p : St} {v u : Value} {V : List (List En)} {l : List En} {yw : List Value} (h : VW w B q p v V l u yw) {g : Nat} (hg : w.grownBy w' (some g)) (hm : g ∈ blks (u :: yw)) : VSt w' B q p v V := by
  obtain ⟨ve, vc, ys, cs, h1, h2, h3, h4⟩ := h
  have hne : ∀ k, k ∈ foot q ve vc ys cs → w'.heap[k]? = w.heap[k]? := fun k hk => hg.block k (h1.foot_lt k hk) fun e => by
    injection e with e
    subst e
    exact h4 _ hm hk
  refine ⟨ve, vc, ys, cs, h1.stayF hne, h2.stay (fun k hk hf => hg.block k hk fun e => ?_) fun k _ hf hm' => hf (List.mem_append_left _ hm')⟩
  injection e with e
  subst e
  exact hf (List.mem_append_right _ hm)
end Go.Proofs.Ytpkpffnabcgcbaa
