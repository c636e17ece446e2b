/-
  Views: what a view is; the walk of equal at equal views.
-/
import Derived.Test.YtpkpffnabcgcbaaFw
namespace Go.Proofs.Ytpkpffnabcgcbaa
open Go.RowKit

set_option maxHeartbeats 2000000 in
theorem equal_any {A D : Option Addr} {c d : Nat} (l : List En) (w : World) (h : EnvsAt w A l) (k : EnvsAt w D l) (hn : l.length ≤ 1000000000000) (hny : ∀ x ∈ l, x.y.length ≤ 8796093022208) :
    Calls Try.prog 18 #[.slice A l.length c, .slice D l.length d] w fun e w' => e = .returned (.bool true) ∧ Below w.heap.size w w' := by
  have HS := Lib.hid h
  have HT := Lib.hid k
  clear h k
  go_enter Try.func18, Try.ntmps18
  go_wp2_with fail
  go_loopw [5] (fun i wr => ∃ k : Nat, k ≤ l.length ∧ i = .int .i64 (k : Int) ∧ Hid (Below w.heap.size w wr)) (fun i _ => l.length - (intOf i).toNat)
  case atStart => exact ⟨0, by omega, rfl, Lib.hid (Below.refl _ _)⟩
  case round =>
    obtain ⟨k, hk, rfl, HB1⟩ := hrel
    by_cases hlt : k < l.length
    · obtain ⟨x, hx⟩ : ∃ x, l[k]? = some x := ⟨_, List.getElem?_eq_getElem hlt⟩
      have hyl := hny x (List.mem_of_getElem? hx)
      obtain ⟨b, off, rfl, hb, hat⟩ := (HS.out.next HB1.out) (by omega)
      obtain ⟨b', off', rfl, hb', hat'⟩ := (HT.out.next HB1.out) (by omega)
      obtain ⟨Ay, cy, x0, x1, x2, x3, -, ca0⟩ := hat k x hx
      obtain ⟨Ez, ez, y0, y1, y2, y3, -, ca1⟩ := hat' k x hx
      have HCA := Lib.hid ca0
      have HC1 := Lib.hid ca1
      clear hat hat' hx ca0 ca1
      go_upto_region 6 with fail
      obtain ⟨X0, HX0⟩ : ∃ X, Hid (X = wr.drew) := ⟨_, rfl⟩
      have hd0 : Below wr.heap.size wr X0 := by rw [HX0.out]; exact bDrew _
      have HB2 := Lib.hid (bNext HB1.out hd0)
      have HD := Lib.hid hd0
      refine wp_region_N (fun w' => Below wr.heap.size wr w') (fun _ => true) (by kernel_rfl) ?_
      rw [← HX0.out]
      clear HX0
      have hS0 : (fun w' => Below wr.heap.size wr w') X0 := hd0
      refine wpAnyN_take (i := 0) (v := ?v1) rfl (by kernel_rfl) (by kernel_rfl) (by kernel_rfl) (by kernel_rfl) (fun _ _ _ h => h) (Or.inl ⟨by rfl, ?hy1⟩) (by assumption) ?_
      case hy1 => intro w hSw; have zx0 := (hSw.cell (p := ⟨b, _, none⟩) hb).trans x0; have zx1 := (hSw.cell (p := ⟨b, _, none⟩) hb).trans x1; have zx2 := (hSw.cell (p := ⟨b, _, none⟩) hb).trans x2; have zx3 := (hSw.cell (p := ⟨b, _, none⟩) hb).trans x3; have zy0 := (hSw.cell (p := ⟨b', _, none⟩) hb').trans y0; have zy1 := (hSw.cell (p := ⟨b', _, none⟩) hb').trans y1; have zy2 := (hSw.cell (p := ⟨b', _, none⟩) hb').trans y2; have zy3 := (hSw.cell (p := ⟨b', _, none⟩) hb').trans y3; go_simp; try with_reducible rfl
      simp only [Act.put, List.getElem_toArray, List.getElem_cons_zero, List.setIfInBounds_toArray, List.set_cons_zero, List.set_cons_succ]
      refine wpAnyN_take (i := 1) (v := ?v2) rfl (by kernel_rfl) (by kernel_rfl) (by kernel_rfl) (by kernel_rfl) (fun _ _ _ h => h) (Or.inl ⟨by rfl, ?hy2⟩) (by assumption) ?_
      case hy2 => intro w hSw; have zx0 := (hSw.cell (p := ⟨b, _, none⟩) hb).trans x0; have zx1 := (hSw.cell (p := ⟨b, _, none⟩) hb).trans x1; have zx2 := (hSw.cell (p := ⟨b, _, none⟩) hb).trans x2; have zx3 := (hSw.cell (p := ⟨b, _, none⟩) hb).trans x3; have zy0 := (hSw.cell (p := ⟨b', _, none⟩) hb').trans y0; have zy1 := (hSw.cell (p := ⟨b', _, none⟩) hb').trans y1; have zy2 := (hSw.cell (p := ⟨b', _, none⟩) hb').trans y2; have zy3 := (hSw.cell (p := ⟨b', _, none⟩) hb').trans y3; go_simp; try with_reducible rfl
      simp only [Act.put, List.getElem_toArray, List.getElem_cons_zero, List.getElem_cons_succ, List.setIfInBounds_toArray, List.set_cons_zero, List.set_cons_succ]
      refine wpAnyN_take (i := 2) (v := ?v3) rfl (by kernel_rfl) (by kernel_rfl) (by kernel_rfl) (by kernel_rfl) (fun _ _ _ h => h) (Or.inl ⟨by rfl, ?hy3⟩) (by assumption) ?_
      case hy3 => intro w hSw; have zx0 := (hSw.cell (p := ⟨b, _, none⟩) hb).trans x0; have zx1 := (hSw.cell (p := ⟨b, _, none⟩) hb).trans x1; have zx2 := (hSw.cell (p := ⟨b, _, none⟩) hb).trans x2; have zx3 := (hSw.cell (p := ⟨b, _, none⟩) hb).trans x3; have zy0 := (hSw.cell (p := ⟨b', _, none⟩) hb').trans y0; have zy1 := (hSw.cell (p := ⟨b', _, none⟩) hb').trans y1; have zy2 := (hSw.cell (p := ⟨b', _, none⟩) hb').trans y2; have zy3 := (hSw.cell (p := ⟨b', _, none⟩) hb').trans y3; go_simp; try with_reducible rfl
      simp only [Act.put, List.getElem_toArray, List.getElem_cons_zero, List.getElem_cons_succ, List.setIfInBounds_toArray, List.set_cons_zero, List.set_cons_succ]
      refine wpAnyN_take (i := 3) (v := ?v4) rfl (by kernel_rfl) (by kernel_rfl) (by kernel_rfl) (by kernel_rfl) (fun _ _ _ h => h) (Or.inl ⟨by rfl, ?hy4⟩) (by assumption) ?_
      case hy4 => intro w hSw; have zx0 := (hSw.cell (p := ⟨b, _, none⟩) hb).trans x0; have zx1 := (hSw.cell (p := ⟨b, _, none⟩) hb).trans x1; have zx2 := (hSw.cell (p := ⟨b, _, none⟩) hb).trans x2; have zx3 := (hSw.cell (p := ⟨b, _, none⟩) hb).trans x3; have zy0 := (hSw.cell (p := ⟨b', _, none⟩) hb').trans y0; have zy1 := (hSw.cell (p := ⟨b', _, none⟩) hb').trans y1; have zy2 := (hSw.cell (p := ⟨b', _, none⟩) hb').trans y2; have zy3 := (hSw.cell (p := ⟨b', _, none⟩) hb').trans y3; go_simp; try with_reducible rfl
      simp only [Act.put, List.getElem_toArray, List.getElem_cons_zero, List.getElem_cons_succ, List.setIfInBounds_toArray, List.set_cons_zero, List.set_cons_succ]
      refine wpAnyN_take (i := 4) (v := ?v5) rfl (by kernel_rfl) (by kernel_rfl) (by kernel_rfl) (by kernel_rfl) (fun _ _ _ h => h) (Or.inl ⟨by rfl, ?hy5⟩) (by assumption) ?_
      case hy5 => intro w hSw; have zx0 := (hSw.cell (p := ⟨b, _, none⟩) hb).trans x0; have zx1 := (hSw.cell (p := ⟨b, _, none⟩) hb).trans x1; have zx2 := (hSw.cell (p := ⟨b, _, none⟩) hb).trans x2; have zx3 := (hSw.cell (p := ⟨b, _, none⟩) hb).trans x3; have zy0 := (hSw.cell (p := ⟨b', _, none⟩) hb').trans y0; have zy1 := (hSw.cell (p := ⟨b', _, none⟩) hb').trans y1; have zy2 := (hSw.cell (p := ⟨b', _, none⟩) hb').trans y2; have zy3 := (hSw.cell (p := ⟨b', _, none⟩) hb').trans y3; go_simp; try with_reducible rfl
      simp only [Act.put, List.getElem_toArray, List.getElem_cons_zero, List.getElem_cons_succ, List.setIfInBounds_toArray, List.set_cons_zero, List.set_cons_succ]
      refine wpAnyN_take (i := 5) (v := ?v6) rfl (by kernel_rfl) (by kernel_rfl) (by kernel_rfl) (by kernel_rfl) (fun _ _ _ h => h) (Or.inl ⟨by rfl, ?hy6⟩) (by assumption) ?_
      case hy6 => intro w hSw; have zx0 := (hSw.cell (p := ⟨b, _, none⟩) hb).trans x0; have zx1 := (hSw.cell (p := ⟨b, _, none⟩) hb).trans x1; have zx2 := (hSw.cell (p := ⟨b, _, none⟩) hb).trans x2; have zx3 := (hSw.cell (p := ⟨b, _, none⟩) hb).trans x3; have zy0 := (hSw.cell (p := ⟨b', _, none⟩) hb').trans y0; have zy1 := (hSw.cell (p := ⟨b', _, none⟩) hb').trans y1; have zy2 := (hSw.cell (p := ⟨b', _, none⟩) hb').trans y2; have zy3 := (hSw.cell (p := ⟨b', _, none⟩) hb').trans y3; go_simp; try with_reducible rfl
      simp only [Act.put, List.getElem_toArray, List.getElem_cons_zero, List.getElem_cons_succ, List.setIfInBounds_toArray, List.set_cons_zero, List.set_cons_succ]
      refine wpAnyN_take (i := 6) (v := ?v7) rfl (by kernel_rfl) (by kernel_rfl) (by kernel_rfl) (by kernel_rfl) (fun _ _ _ h => h) (Or.inl ⟨by rfl, ?hy7⟩) (by assumption) ?_
      case hy7 => intro w hSw; have zx0 := (hSw.cell (p := ⟨b, _, none⟩) hb).trans x0; have zx1 := (hSw.cell (p := ⟨b, _, none⟩) hb).trans x1; have zx2 := (hSw.cell (p := ⟨b, _, none⟩) hb).trans x2; have zx3 := (hSw.cell (p := ⟨b, _, none⟩) hb).trans x3; have zy0 := (hSw.cell (p := ⟨b', _, none⟩) hb').trans y0; have zy1 := (hSw.cell (p := ⟨b', _, none⟩) hb').trans y1; have zy2 := (hSw.cell (p := ⟨b', _, none⟩) hb').trans y2; have zy3 := (hSw.cell (p := ⟨b', _, none⟩) hb').trans y3; go_simp; try with_reducible rfl
      simp only [Act.put, List.getElem_toArray, List.getElem_cons_zero, List.getElem_cons_succ, List.setIfInBounds_toArray, List.set_cons_zero, List.set_cons_succ]
      refine wpAnyN_take (i := 7) (v := ?v8) rfl (by kernel_rfl) (by kernel_rfl) (by kernel_rfl) (by kernel_rfl) (fun _ _ _ h => h) (Or.inl ⟨by rfl, ?hy8⟩) (by assumption) ?_
      case hy8 => intro w hSw; have zx0 := (hSw.cell (p := ⟨b, _, none⟩) hb).trans x0; have zx1 := (hSw.cell (p := ⟨b, _, none⟩) hb).trans x1; have zx2 := (hSw.cell (p := ⟨b, _, none⟩) hb).trans x2; have zx3 := (hSw.cell (p := ⟨b, _, none⟩) hb).trans x3; have zy0 := (hSw.cell (p := ⟨b', _, none⟩) hb').trans y0; have zy1 := (hSw.cell (p := ⟨b', _, none⟩) hb').trans y1; have zy2 := (hSw.cell (p := ⟨b', _, none⟩) hb').trans y2; have zy3 := (hSw.cell (p := ⟨b', _, none⟩) hb').trans y3; go_simp; try with_reducible rfl
      simp only [Act.put, List.getElem_toArray, List.getElem_cons_zero, List.getElem_cons_succ, List.setIfInBounds_toArray, List.set_cons_zero, List.set_cons_succ]
      refine wpAnyN_one (i := 8) (by kernel_rfl) rfl (fun K hK => ?_)
      simp only [List.getElem_toArray, List.getElem_cons_zero, List.getElem_cons_succ]
      go_simp
      refine (sameEnv_any x X0 (HCA.out.next HD.out) (HC1.out.next HD.out) hyl).mono ?_
      rintro e w9 ⟨rfl, h9⟩
      have HB9 := Lib.hid (bNext HB2.out h9)
      refine hK _ _ (fun _ => bNext hS0 h9) ?_
      (try simp only [Act.put, List.setIfInBounds_toArray, List.set_cons_zero, List.set_cons_succ])
      refine wpAnyN_one (i := 9) (by kernel_rfl) rfl (fun K hK => ?_)
      simp only [List.getElem_toArray, List.getElem_cons_zero, List.getElem_cons_succ]
      go_simp
      refine hK _ _ (fun _ => bNext hS0 h9) ?_
      (try simp only [Act.put, List.setIfInBounds_toArray, List.set_cons_zero, List.set_cons_succ])
      refine wpAnyN_done (by kernel_rfl) ?_ _
      clear h9 x0 x1 x2 x3 y0 y1 y2 y3
      go_wp2_with fail
      exact ⟨⟨k + 1, by omega, by go_num, HB9⟩, by simp [intOf]; omega⟩
    · go_wp2_with fail
      go_ret
      exact ⟨rfl, HB1.out⟩
/-- the environments from a number on, each with the one before it: no more than the fuel -/
def viewN (l : List En) : Nat → Int → List En
  | 0, _ => []
  | f + 1, a => if 0 < a ∧ a ≤ l.length then match l[(a - 1).toNat]? with
    | some x => { x with prev := 0 } :: viewN l f x.prev
    | none => [] else []
def viewA (l : List En) (a : Int) : List En := viewN l a.toNat a
theorem viewN_fuel {l : List En} (h : ∀ i x, l[i]? = some x → enOk i x) : ∀ (f g : Nat) (a : Int), a.toNat ≤ f → a.toNat ≤ g → viewN l f a = viewN l g a
  | 0, 0, _, _, _ => rfl
  | 0, g + 1, a, hf, _ => by
    unfold viewN
    rw [if_neg (by omega)]
  | f + 1, 0, a, _, hg => by
    unfold viewN
    rw [if_neg (by omega)]
  | f + 1, g + 1, a, hf, hg => by
    unfold viewN
    split
    · rename_i hc
      split
      · rename_i x hx
        have ho := h _ x hx
        rw [viewN_fuel h f g x.prev (by have := ho.2.1; omega) (by have := ho.2.1; omega)]
      · rfl
    · rfl
theorem viewA_step {l : List En} (h : ∀ i x, l[i]? = some x → enOk i x) {n : Nat} {x : En} (hx : l[n]? = some x) : viewA l ((n : Int) + 1) = { x with prev := 0 } :: viewA l x.prev := by
  have hl := (List.getElem?_eq_some_iff.1 hx).1
  have ho := h n x hx
  unfold viewA
  rw [show ((n : Int) + 1).toNat = n + 1 by omega]
  show (if 0 < (n : Int) + 1 ∧ (n : Int) + 1 ≤ l.length then match l[((n : Int) + 1 - 1).toNat]? with | some x => { x with prev := 0 } :: viewN l n x.prev | none => [] else []) = _
  rw [if_pos (by omega), show ((n : Int) + 1 - 1).toNat = n by omega, hx]
  show _ :: viewN l n x.prev = _
  rw [viewN_fuel h n x.prev.toNat x.prev (by have := ho.2.1; omega) (Nat.le_refl _)]
theorem viewA_stop {l : List En} {a : Int} (h : a ≤ 0) : viewA l a = [] := by
  unfold viewA
  rw [show a.toNat = 0 by omega]
  rfl
theorem viewN_take {l m : List En} {k : Nat} (hk : l.take k = m.take k) : ∀ (f : Nat) (a : Int), a ≤ k → (k ≤ l.length) → (k ≤ m.length) → (∀ i x, l[i]? = some x → enOk i x) → viewN l f a = viewN m f a
  | 0, _, _, _, _, _ => rfl
  | f + 1, a, ha, hl, hm, ho => by
    unfold viewN
    by_cases hc : 0 < a
    · rw [if_pos ⟨hc, by omega⟩, if_pos ⟨hc, by omega⟩]
      have e : l[(a - 1).toNat]? = m[(a - 1).toNat]? := by
        have h1 := congrArg (·[(a - 1).toNat]?) hk
        simp only [List.getElem?_take] at h1
        rw [if_pos (by omega), if_pos (by omega)] at h1
        exact h1
      rw [e]
      split
      · rename_i x hx
        have hox := ho _ x (e.trans hx)
        rw [viewN_take hk f x.prev (by have := hox.2.1; omega) hl hm ho]
      · rfl
    · rw [if_neg (by omega), if_neg (by omega)]
/-- a view depends on the first environments alone -/
theorem viewA_take {l m : List En} {k : Nat} (hk : l.take k = m.take k) {a : Int} (ha : a ≤ k) (hl : k ≤ l.length) (hm : k ≤ m.length) (ho : ∀ i x, l[i]? = some x → enOk i x) : viewA l a = viewA m a := viewN_take hk _ _ ha hl hm ho
theorem viewN_len (l : List En) : ∀ (f : Nat) (a : Int), (viewN l f a).length ≤ f
  | 0, _ => Nat.le_refl _
  | f + 1, a => by
    unfold viewN
    split
    · split
      · have := viewN_len l f
        rename_i x hx
        simpa using this x.prev
      · exact Nat.zero_le _
    · exact Nat.zero_le _
theorem viewA_len (l : List En) (a : Int) : (viewA l a).length ≤ a.toNat := viewN_len l _ _
theorem viewN_mem {l : List En} {P : En → Prop} (h : ∀ x ∈ l, P { x with prev := 0 }) : ∀ (f : Nat) (a : Int) (y : En), y ∈ viewN l f a → P y
  | 0, _, y, hy => by cases hy
  | f + 1, a, y, hy => by
    unfold viewN at hy
    split at hy
    · split at hy
      · rename_i x hx
        rcases List.mem_cons.1 hy with rfl | hy
        · exact h x (List.mem_of_getElem? hx)
        · exact viewN_mem h f _ y hy
      · cases hy
    · cases hy
def viewV (s : St) : List En := viewA s.envs s.e
end Go.Proofs.Ytpkpffnabcgcbaa
