/-
  The walk of Free.
-/
import Derived.Test.YtpkpffnabcgcbaaFf
import Derived.Test.YtpkpffnabcgcbaaFc
namespace Go.Proofs.Ytpkpffnabcgcbaa
open Go.RowKit

/-- the box alone is changed, the rows stay -/
theorem Stk.boxE {w w' : World} {B p : Nat} {s : St} {ve vc : Value} {ys : List Value} {cs : List (Value × Value)} (h : Stk w B p s ve vc ys cs) (hu : Upd p w w') {e : Int} (hb : Blk w' p 25 #[ve, .int .i64 e, vc]) :
    Stk w' B p ⟨s.envs, e, s.chs⟩ ve vc ys cs := by
  obtain ⟨A, c, rfl, -⟩ := own_form h.envs
  obtain ⟨A', c', rfl, -⟩ := own_form h.chs
  have h1 := h.boxed hu rfl rfl (Nat.le_refl _) (Nat.le_refl _) hb
  rw [List.take_length, List.take_length] at h1
  have hy : ys.take s.envs.length = ys := by rw [← h.ylen, List.take_length]
  have hc : cs.take s.chs.length = cs := by rw [← h.clen, List.take_length]
  rw [hy, hc] at h1
  exact h1
/-- behind drop -/
theorem Stk.dropped {w w' : World} {B p : Nat} {s : St} {vc : Value} {ys : List Value} {cs : List (Value × Value)} {A : Option Addr} {c : Nat} (h : Stk w B p s (.slice A s.envs.length c) vc ys cs) (hu : Upd p w w') (hb : Blk w' p 25 #[.slice A (keepN s) c, .int .i64 s.e, vc]) :
    Stk w' B p (dropV s) (.slice A (keepN s) c) vc (ys.take (keepN s)) cs := by
  obtain ⟨A', c', rfl, -⟩ := own_form h.chs
  have h1 := h.boxed hu rfl rfl (keepN_le s) (Nat.le_refl _) hb
  rw [List.take_length] at h1
  have hc : cs.take s.chs.length = cs := by rw [← h.clen, List.take_length]
  rw [hc] at h1
  exact h1
theorem foot_drop {p n m c : Nat} {A : Option Addr} {vc : Value} {ys : List Value} {cs : List (Value × Value)} (q : Nat) {j c' : Nat} {A' : Option Addr} (hvc : vc = .slice A' j c') : ∀ g ∈ foot p (.slice A m c) vc (ys.take q) cs, g ∈ foot p (.slice A n c) vc ys cs := by
  subst hvc
  intro g hg
  have h := foot_sub (p := p) (A := A) (A' := A') (n := n) (m := m) (k := j) (j := j) (c := c) (c' := c') (ys := ys) (cs := cs) q cs.length g
  rw [List.take_length] at h
  exact h hg
def curN (s : St) : Option Nat := if 1 ≤ s.e ∧ s.e ≤ s.envs.length then some (s.e - 1).toNat else none
def freeV (s : St) : Except Int (St × Int × Int) := match curN s with
  | some n => match s.envs[n]? with
    | some x => .ok (dropV ⟨s.envs, x.prev, s.chs⟩, x.id, x.pc)
    | none => .error 5
  | none => .error 5
def freeS (s : St) : Except Int (St × Int × Int) → St
  | .ok (t, _) => t
  | .error _ => s
def freeT : Except Int (St × Int × Int) → Value
  | .ok (_, a, b) => .tuple #[.int .i64 a, .int .i64 b, .int .i64 0]
  | .error e => .tuple #[.int .i64 0, .int .i64 0, .int .i64 e]
set_option maxHeartbeats 2000000 in
theorem free_any {B p : Nat} {s : St} {ve vc : Value} {ys : List Value} {cs : List (Value × Value)} (w : World) (h : Stk w B p s ve vc ys cs) (hn : s.envs.length ≤ 1000000000000) (hnc : s.chs.length ≤ 1000000000000) :
    Calls Try.prog 29 #[.pointer (some ⟨p, 0, none⟩)] w (RetP B p (foot p ve vc ys cs) (freeT (freeV s)) (freeS s (freeV s)) w) := by
  have hp := h.box.lt
  by_cases hc : 1 ≤ s.e ∧ s.e ≤ s.envs.length
  · obtain ⟨n, hn1⟩ : ∃ n : Nat, s.e = (n : Int) + 1 := ⟨(s.e - 1).toNat, by omega⟩
    have hlt : n < s.envs.length := by omega
    obtain ⟨x, hx⟩ : ∃ x, s.envs[n]? = some x := ⟨_, List.getElem?_eq_getElem hlt⟩
    have hv : freeV s = .ok (dropV ⟨s.envs, x.prev, s.chs⟩, x.id, x.pc) := by
      unfold freeV curN
      rw [if_pos hc, show (s.e - 1).toNat = n by omega]
      simp only [hx]
    rw [hv]
    show Calls Try.prog 29 _ w (RetP B p _ (.tuple #[.int .i64 x.id, .int .i64 x.pc, .int .i64 0]) (dropV ⟨s.envs, x.prev, s.chs⟩) w)
    obtain ⟨g, cap, v, rfl, hcap, hyv, hyr, -, -, -, -⟩ := h.enAt hx
    obtain ⟨A', c', rfl, hcap'⟩ := own_form h.chs
    have hcur := current_at w h hn hn1 hlt
    have HCUR := Lib.hid hcur
    have H := Lib.hid h
    clear hcur h hv
    go_enter Try.func29, Try.ntmps29
    go_wp2_with fail
    refine HCUR.out.mono ?_
    rintro e w1 ⟨rfl, hb1⟩
    have H1 := Lib.hid (H.out.next hb1)
    obtain ⟨g', cap1, v1, e1, hcap1, hyv1, hyr1, k0, k1, k2, k3⟩ := H1.out.enAt hx
    injection e1 with e1 _ _
    injection e1 with e1
    injection e1 with e1 _ _
    subst e1
    have HB1 := Lib.hid hb1
    have hk := H1.out.box
    obtain ⟨c0, c1, c2⟩ := H1.out.cells
    have f1 := hk.frozen 1
    have hl := hk.lt
    clear hb1 HCUR hyv1 hyr1 hyv hyr
    go_upto_region 6 with fail
    refine wp_region_N (fun w' => w'.cell? ⟨g, n * 4, none⟩ = some (.int .i64 x.prev) ∧ w'.cell? ⟨g, n * 4 + 1, none⟩ = some (.int .i64 x.id) ∧ w'.cell? ⟨g, n * 4 + 2, none⟩ = some (.int .i64 x.pc)) (fun _ => true) (by kernel_rfl) ?_
    have hS0 : (fun w' => w'.cell? ⟨g, n * 4, none⟩ = some (.int .i64 x.prev) ∧ w'.cell? ⟨g, n * 4 + 1, none⟩ = some (.int .i64 x.id) ∧ w'.cell? ⟨g, n * 4 + 2, none⟩ = some (.int .i64 x.pc)) w1.drew := ⟨k0, k1, k2⟩
    refine wpAnyN_take (i := 0) (v := ?v1) rfl (by kernel_rfl) (by kernel_rfl) (by kernel_rfl) (by kernel_rfl) (fun _ _ _ h => h) (Or.inl ⟨by rfl, ?hy1⟩) (by assumption) ?_
    case hy1 => intro w hSw; obtain ⟨s0, s1, s2⟩ := hSw; go_simp; try with_reducible rfl
    simp only [Act.put, List.getElem_toArray, List.getElem_cons_zero, List.setIfInBounds_toArray, List.set_cons_zero, List.set_cons_succ]
    refine wpAnyN_take (i := 1) (v := ?v2) rfl (by kernel_rfl) (by kernel_rfl) (by kernel_rfl) (by kernel_rfl) (fun _ _ _ h => h) (Or.inl ⟨by rfl, ?hy2⟩) (by assumption) ?_
    case hy2 => intro w hSw; obtain ⟨s0, s1, s2⟩ := hSw; go_simp; try with_reducible rfl
    simp only [Act.put, List.getElem_toArray, List.getElem_cons_zero, List.getElem_cons_succ, List.setIfInBounds_toArray, List.set_cons_zero, List.set_cons_succ]
    refine wpAnyN_take (i := 2) (v := ?v3) rfl (by kernel_rfl) (by kernel_rfl) (by kernel_rfl) (by kernel_rfl) (fun _ _ _ h => h) (Or.inl ⟨by rfl, ?hy3⟩) (by assumption) ?_
    case hy3 => intro w hSw; obtain ⟨s0, s1, s2⟩ := hSw; go_simp; try with_reducible rfl
    simp only [Act.put, List.getElem_toArray, List.getElem_cons_zero, List.getElem_cons_succ, List.setIfInBounds_toArray, List.set_cons_zero, List.set_cons_succ]
    refine wpAnyN_take (i := 3) (v := ?v4) rfl (by kernel_rfl) (by kernel_rfl) (by kernel_rfl) (by kernel_rfl) (fun _ _ _ h => h) (Or.inl ⟨by rfl, ?hy4⟩) (by assumption) ?_
    case hy4 => intro w hSw; obtain ⟨s0, s1, s2⟩ := hSw; go_simp; try with_reducible rfl
    simp only [Act.put, List.getElem_toArray, List.getElem_cons_zero, List.getElem_cons_succ, List.setIfInBounds_toArray, List.set_cons_zero, List.set_cons_succ]
    refine wpAnyN_take (i := 4) (v := ?v5) rfl (by kernel_rfl) (by kernel_rfl) (by kernel_rfl) (by kernel_rfl) (fun _ _ _ h => h) (Or.inl ⟨by rfl, ?hy5⟩) (by assumption) ?_
    case hy5 => intro w hSw; obtain ⟨s0, s1, s2⟩ := hSw; go_simp; try with_reducible rfl
    simp only [Act.put, List.getElem_toArray, List.getElem_cons_zero, List.getElem_cons_succ, List.setIfInBounds_toArray, List.set_cons_zero, List.set_cons_succ]
    refine wpAnyN_take (i := 5) (v := ?v6) rfl (by kernel_rfl) (by kernel_rfl) (by kernel_rfl) (by kernel_rfl) (fun _ _ _ h => h) (Or.inl ⟨by rfl, ?hy6⟩) (by assumption) ?_
    case hy6 => intro w hSw; obtain ⟨s0, s1, s2⟩ := hSw; go_simp; try with_reducible rfl
    simp only [Act.put, List.getElem_toArray, List.getElem_cons_zero, List.getElem_cons_succ, List.setIfInBounds_toArray, List.set_cons_zero, List.set_cons_succ]
    refine wpAnyN_take (i := 6) (v := ?v7) rfl (by kernel_rfl) (by kernel_rfl) (by kernel_rfl) (by kernel_rfl) (fun _ _ _ h => h) (Or.inl ⟨by rfl, ?hy7⟩) (by assumption) ?_
    case hy7 => intro w hSw; obtain ⟨s0, s1, s2⟩ := hSw; go_simp; try with_reducible rfl
    simp only [Act.put, List.getElem_toArray, List.getElem_cons_zero, List.getElem_cons_succ, List.setIfInBounds_toArray, List.set_cons_zero, List.set_cons_succ]
    refine wpAnyN_take (i := 7) (v := ?v8) rfl (by kernel_rfl) (by kernel_rfl) (by kernel_rfl) (by kernel_rfl) (fun _ _ _ h => h) (Or.inl ⟨by rfl, ?hy8⟩) (by assumption) ?_
    case hy8 => intro w hSw; obtain ⟨s0, s1, s2⟩ := hSw; go_simp; try with_reducible rfl
    simp only [Act.put, List.getElem_toArray, List.getElem_cons_zero, List.getElem_cons_succ, List.setIfInBounds_toArray, List.set_cons_zero, List.set_cons_succ]
    refine wpAnyN_take (i := 8) (v := ?v9) rfl (by kernel_rfl) (by kernel_rfl) (by kernel_rfl) (by kernel_rfl) (fun _ _ _ h => h) (Or.inl ⟨by rfl, ?hy9⟩) (by assumption) ?_
    case hy9 => intro w hSw; obtain ⟨s0, s1, s2⟩ := hSw; go_simp; try with_reducible rfl
    simp only [Act.put, List.getElem_toArray, List.getElem_cons_zero, List.getElem_cons_succ, List.setIfInBounds_toArray, List.set_cons_zero, List.set_cons_succ]
    refine wpAnyN_take (i := 9) (v := ?v10) rfl (by kernel_rfl) (by kernel_rfl) (by kernel_rfl) (by kernel_rfl) (fun _ _ _ h => h) (Or.inl ⟨by rfl, ?hy10⟩) (by assumption) ?_
    case hy10 => intro w hSw; obtain ⟨s0, s1, s2⟩ := hSw; go_simp; try with_reducible rfl
    simp only [Act.put, List.getElem_toArray, List.getElem_cons_zero, List.getElem_cons_succ, List.setIfInBounds_toArray, List.set_cons_zero, List.set_cons_succ]
    refine wpAnyN_done (by kernel_rfl) ?_ _
    obtain ⟨X0, HX⟩ : ∃ X, Hid (X = w1.drew) := ⟨_, rfl⟩
    have hd0 : Below w1.heap.size w1 X0 := by rw [HX.out]; exact bDrew w1
    have H2 := Lib.hid (H1.out.next hd0)
    have HB2 := Lib.hid (bNext HB1.out hd0)
    have k0x : X0.cell? ⟨g, n * 4, none⟩ = some (.int .i64 x.prev) := by rw [HX.out]; exact k0
    rw [← HX.out]
    clear HX hd0 c0 c1 c2 f1 hl hk H1 HB1 k0 k1 k2 k3 hS0
    have hk := H2.out.box
    have f1 := hk.frozen 1
    have hl := hk.lt
    obtain ⟨c0, c1, c2⟩ := H2.out.cells
    have hb := hk.set_ 1 (.int .i64 x.prev)
    have hu := (Upd.refl p X0).set 1 (.int .i64 x.prev)
    obtain ⟨W, HW⟩ : ∃ X, Hid (X = X0.setCell ⟨p, 1, none⟩ (.int .i64 x.prev)) := ⟨_, rfl⟩
    rw [← HW.out] at hb hu
    have hs1 := H2.out.boxE hu (e := x.prev) (by simpa using hb)
    have hd := drop_any W hs1 hn hnc
    have HD := Lib.hid hd
    have HU := Lib.hid hu
    have HS1 := Lib.hid hs1
    clear hd hu hs1 hb
    go_upto_region 8 with fail
    rw [← HW.out]
    go_wp2_with fail
    refine HD.out.mono ?_
    rintro e w2 ⟨rfl, hu2, hb2⟩
    have HS2 := Lib.hid (HS1.out.dropped hu2 hb2)
    have HU2 := Lib.hid hu2
    clear hu2 hb2
    go_wp2_with fail
    refine bodyPost_ret (v := .tuple #[.int .i64 x.id, .int .i64 x.pc, .int .i64 0]) (by simp only [results, Try.results29]; go_simp) rfl ?_
    exact ⟨rfl, ⟨_, _, _, _, HS2.out, fun g hg => .inl (foot_drop _ rfl g hg)⟩, ((Kept.below HB2.out).trans (Kept.upd HU.out List.mem_cons_self)).trans (Kept.upd HU2.out List.mem_cons_self)⟩
  · have hv : freeV s = .error 5 := by unfold freeV curN; rw [if_neg hc]
    rw [hv]
    have HCUR := Lib.hid (current_no w h (by omega))
    have H := Lib.hid h
    clear h
    go_enter Try.func29, Try.ntmps29
    go_wp2_with fail
    refine HCUR.out.mono ?_
    rintro e w1 ⟨rfl, hb1⟩
    have H1 := Lib.hid (H.out.next hb1)
    have HB1 := Lib.hid hb1
    clear hb1
    go_wp2_with fail
    refine bodyPost_ret (v := .tuple #[.int .i64 0, .int .i64 0, .int .i64 5]) (by simp only [results, Try.results29]; go_simp) rfl ?_
    exact ⟨rfl, ⟨_, _, _, _, H1.out, fun g hg => .inl hg⟩, Kept.below HB1.out⟩
end Go.Proofs.Ytpkpffnabcgcbaa
