/-
  Walk: the law IndexVariants.
-/
import Derived.Test.YtpkpdjekoghkcaaTq
import Derived.Test.YtpkpdjekoghkcaaWn
namespace Go.Proofs.Ytpkpdjekoghkcaa
open Go.RowKit

theorem keyCells4 {w : World} {b : Nat} {q : K} (h : Blk w b 35 #[.int .i64 q.kind, .int .i64 q.n, .string q.name, .int .i64 q.ar]) :
    w.cell? ⟨b, 0, none⟩ = some (.int .i64 q.kind) ∧ w.cell? ⟨b, 1, none⟩ = some (.int .i64 q.n) ∧ w.cell? ⟨b, 2, none⟩ = some (.string q.name) ∧ w.cell? ⟨b, 3, none⟩ = some (.int .i64 q.ar) := by
  have h0 := h.cell 0
  have h1 := h.cell 1
  have h2 := h.cell 2
  have h3 := h.cell 3
  simp at h0 h1 h2 h3
  exact ⟨h0, h1, h2, h3⟩
theorem tmCells4 {w : World} {b : Nat} {t : Tm} {A : Option Addr} {c : Nat} (h : Blk w b 47 #[.int .i64 t.kind, .int .i64 t.n, .string t.name, .slice A t.args.length c]) :
    w.cell? ⟨b, 0, none⟩ = some (.int .i64 t.kind) ∧ w.cell? ⟨b, 1, none⟩ = some (.int .i64 t.n) ∧ w.cell? ⟨b, 2, none⟩ = some (.string t.name) ∧ w.cell? ⟨b, 3, none⟩ = some (.slice A t.args.length c) := by
  have h0 := h.cell 0
  have h1 := h.cell 1
  have h2 := h.cell 2
  have h3 := h.cell 3
  simp at h0 h1 h2 h3
  exact ⟨h0, h1, h2, h3⟩
theorem tmCs_set {rs : List Tr} {j : Nat} (hj : j < rs.length) (r : Tr) : ((((tmCs rs).set (j * 4) (.int .i64 r.1.kind)).set (j * 4 + 1) (.int .i64 r.1.n)).set (j * 4 + 2) (.string r.1.name)).set (j * 4 + 3) (.slice r.2.1 r.1.args.length r.2.2) = tmCs (rs.set j r) := by
  induction rs generalizing j with
  | nil => simp at hj
  | cons x t ih =>
    cases j with
    | zero => simp [tmCs]
    | succ j =>
      simp at hj
      have := ih hj
      rw [show (j + 1) * 4 = j * 4 + 1 + 1 + 1 + 1 by omega]
      simpa [tmCs] using this
theorem Mk.put {w : World} {B g c j : Nat} {rs : List Tr} (h : Mk w B (.slice (some ⟨g, 0, none⟩) rs.length c) rs) (hj : j < rs.length) :
    Mk ((((w.setCell ⟨g, j * 4, none⟩ (.int .i64 1)).setCell ⟨g, j * 4 + 1, none⟩ (.int .i64 3)).setCell ⟨g, j * 4 + 2, none⟩ (.string { data := #[] })).setCell ⟨g, j * 4 + 3, none⟩ (.slice none 0 0)) B (.slice (some ⟨g, 0, none⟩) rs.length c) (rs.set j (three, none, 0)) := by
  refine ⟨?_, fun r hr => ?_⟩
  · have h1 := ((((h.own.stored (j * 4) (.int .i64 1)).1.stored (j * 4 + 1) (.int .i64 3)).1.stored (j * 4 + 2) (.string { data := #[] })).1.stored (j * 4 + 3) (.slice none 0 0)).1
    rw [List.length_set, ← tmCs_set hj]
    exact h1
  · rcases List.mem_or_eq_of_mem_set hr with hr | rfl
    · refine (h.sub r hr).keep (fun b hF => ?_) (fun b hF => ⟨hF.1, by simpa using hF.2.1, hF.2.2⟩)
      have hne : b ≠ g := fun e => hF.2.2 (by rw [e]; rfl)
      repeat rw [heap_setCell_other _ _ _ _ (by simpa using hne)]
    · exact .nil _
theorem and8 {a b c d e f g h : Prop} (x : a ∧ b ∧ c ∧ d) (y : e ∧ f ∧ g ∧ h) : a ∧ b ∧ c ∧ d ∧ e ∧ f ∧ g ∧ h := ⟨x.1, x.2.1, x.2.2.1, x.2.2.2, y⟩

set_option maxRecDepth 100000 in
set_option maxHeartbeats 4000000 in
theorem law10_any (t : Tm) (A : Option Addr) (c : Nat) (i : Int) (hi0 : 0 ≤ i) (hi1 : i < 256) (w : World) (ha : ArgsAt w (Old w.heap.size) A t.args) :
    Calls Try.prog 10 #[t.v A c, .int .u8 i] w fun e w' => e = .returned (.bool true) ∧ Below w.heap.size w w' := by
  have HA := Lib.hid ha
  clear ha
  have he := key_neq
  obtain ⟨q, hq⟩ : ∃ q, keyT t = q := ⟨_, rfl⟩
  have hqq : eqK q.kind q.n q.name q.ar q.kind q.n q.name q.ar = true := (K.eqv_iff q q).2 rfl
  have HQ := Lib.hid hq
  go_enter Try.func10, Try.ntmps10
  go_wp2_with fail
  refine (keyP_any t A c _ ((HA.out.later (bAlloc _ _)).more (by simp))).mono ?_
  rintro e w1 ⟨rfl, hb1⟩
  rw [hq]
  clear hq
  have hbx1 : Below (w.heap.size + 1) (w.alloc (t.o A c)) w1 := by simpa using hb1
  obtain ⟨V, HV⟩ : ∃ V, Hid (V = w1.alloc (.cells #[.int .i64 q.kind, .int .i64 q.n, .string q.name, .int .i64 q.ar] 35)) := ⟨_, rfl⟩
  obtain ⟨kb, HKB⟩ : ∃ kb, Hid (kb = w1.heap.size) := ⟨_, rfl⟩
  have hkb : Blk V kb 35 #[.int .i64 q.kind, .int .i64 q.n, .string q.name, .int .i64 q.ar] := by rw [HV.out, HKB.out]; exact Blk.new _ _ _
  have hbV : Below (w.heap.size + 1) (w.alloc (t.o A c)) V := by rw [HV.out]; exact hbx1.trans ((bAlloc w1 _).mono (by have := hbx1.size; simpa using this))
  have hkw : w.heap.size < kb := by rw [HKB.out]; have := hbx1.size; simp at this; omega
  clear hb1 hbx1
  go_wp2_with fail
  rw [← HV.out, ← HKB.out]
  refine wp_region_N (fun w' => w'.cell? ⟨w.heap.size, 0, none⟩ = some (.int .i64 t.kind) ∧ w'.cell? ⟨w.heap.size, 1, none⟩ = some (.int .i64 t.n) ∧ w'.cell? ⟨w.heap.size, 2, none⟩ = some (.string t.name) ∧ w'.cell? ⟨w.heap.size, 3, none⟩ = some (.slice A t.args.length c) ∧ w'.cell? ⟨kb, 0, none⟩ = some (.int .i64 q.kind) ∧ w'.cell? ⟨kb, 1, none⟩ = some (.int .i64 q.n) ∧ w'.cell? ⟨kb, 2, none⟩ = some (.string q.name) ∧ w'.cell? ⟨kb, 3, none⟩ = some (.int .i64 q.ar)) (fun _ => true) (by kernel_rfl) ?_
  have hB0 : Below (w.heap.size + 1) (w.alloc (t.o A c)) V.drew := bDrewN hbV 1
  have hK0 : Blk V.drew kb 35 #[.int .i64 q.kind, .int .i64 q.n, .string q.name, .int .i64 q.ar] := hkb
  have hS0 : (fun w' => w'.cell? ⟨w.heap.size, 0, none⟩ = some (.int .i64 t.kind) ∧ w'.cell? ⟨w.heap.size, 1, none⟩ = some (.int .i64 t.n) ∧ w'.cell? ⟨w.heap.size, 2, none⟩ = some (.string t.name) ∧ w'.cell? ⟨w.heap.size, 3, none⟩ = some (.slice A t.args.length c) ∧ w'.cell? ⟨kb, 0, none⟩ = some (.int .i64 q.kind) ∧ w'.cell? ⟨kb, 1, none⟩ = some (.int .i64 q.n) ∧ w'.cell? ⟨kb, 2, none⟩ = some (.string q.name) ∧ w'.cell? ⟨kb, 3, none⟩ = some (.int .i64 q.ar)) V.drew := and8 (tmBox hB0) (keyCells4 hK0)
  refine wpAnyN_take (i := 0) (v := ?v1) rfl (by kernel_rfl) (by kernel_rfl) (by kernel_rfl) (by kernel_rfl) (fun _ _ _ h => h) (Or.inl ⟨by rfl, ?hy1⟩) (by assumption) ?_
  case hy1 => intro w hSw; (try dsimp only at hSw); go_simp; try with_reducible rfl
  simp only [Act.put, List.getElem_toArray, List.getElem_cons_zero, List.setIfInBounds_toArray, List.set_cons_zero, List.set_cons_succ]
  refine wpAnyN_take (i := 3) (v := ?v2) rfl (by kernel_rfl) (by kernel_rfl) (by kernel_rfl) (by kernel_rfl) (fun _ _ _ h => h) (Or.inl ⟨by rfl, ?hy2⟩) (by assumption) ?_
  case hy2 => intro w hSw; (try dsimp only at hSw); go_simp; try with_reducible rfl
  simp only [Act.put, List.getElem_toArray, List.getElem_cons_zero, List.getElem_cons_succ, List.setIfInBounds_toArray, List.set_cons_zero, List.set_cons_succ]
  refine wpAnyN_one (i := 1) (by kernel_rfl) rfl (fun K hK => ?_)
  simp only [List.getElem_toArray, List.getElem_cons_zero, List.getElem_cons_succ]
  go_simp
  refine (canon_any t A c V.drew ((HA.out.later (bBox hB0)).more (bBox hB0).size)).mono ?_
  rintro e w2 ⟨⟨x, A2, c2, rfl, hkx, hax⟩, hb2⟩
  have hB1 := hB0.trans (hb2.mono (by have := hB0.size; simpa using this))
  have hK1 := hK0.below hb2 hK0.lt
  have hS1 : (fun w' => w'.cell? ⟨w.heap.size, 0, none⟩ = some (.int .i64 t.kind) ∧ w'.cell? ⟨w.heap.size, 1, none⟩ = some (.int .i64 t.n) ∧ w'.cell? ⟨w.heap.size, 2, none⟩ = some (.string t.name) ∧ w'.cell? ⟨w.heap.size, 3, none⟩ = some (.slice A t.args.length c) ∧ w'.cell? ⟨kb, 0, none⟩ = some (.int .i64 q.kind) ∧ w'.cell? ⟨kb, 1, none⟩ = some (.int .i64 q.n) ∧ w'.cell? ⟨kb, 2, none⟩ = some (.string q.name) ∧ w'.cell? ⟨kb, 3, none⟩ = some (.int .i64 q.ar)) w2 := and8 (tmBox hB1) (keyCells4 hK1)
  refine hK _ _ (fun _ => hS1) ?_
  refine wpAnyN_one (i := 2) (by kernel_rfl) rfl (fun K hK => ?_)
  simp only [List.getElem_toArray, List.getElem_cons_zero, List.getElem_cons_succ]
  go_simp
  refine (keyP_any x A2 c2 w2 hax).mono ?_
  rintro e w3 ⟨rfl, hb3⟩
  rw [hkx, HQ.out]
  have hB2 := hB1.trans (hb3.mono (by have := hB1.size; simpa using this))
  have hK2 := hK1.below hb3 hK1.lt
  have hS2 : (fun w' => w'.cell? ⟨w.heap.size, 0, none⟩ = some (.int .i64 t.kind) ∧ w'.cell? ⟨w.heap.size, 1, none⟩ = some (.int .i64 t.n) ∧ w'.cell? ⟨w.heap.size, 2, none⟩ = some (.string t.name) ∧ w'.cell? ⟨w.heap.size, 3, none⟩ = some (.slice A t.args.length c) ∧ w'.cell? ⟨kb, 0, none⟩ = some (.int .i64 q.kind) ∧ w'.cell? ⟨kb, 1, none⟩ = some (.int .i64 q.n) ∧ w'.cell? ⟨kb, 2, none⟩ = some (.string q.name) ∧ w'.cell? ⟨kb, 3, none⟩ = some (.int .i64 q.ar)) w3 := and8 (tmBox hB2) (keyCells4 hK2)
  refine hK _ _ (fun _ => hS2) ?_
  refine wpAnyN_one (i := 4) (by kernel_rfl) rfl (fun K hK => ?_)
  simp only [List.getElem_toArray, List.getElem_cons_zero, List.getElem_cons_succ]
  go_simp
  refine hK _ _ (fun _ => hS2) ?_
  refine wpAnyN_done (by kernel_rfl) ?_ _
  have hkw2 : kb < w3.heap.size := hK2.lt
  obtain ⟨k0, k1, k2, k3⟩ := keyCells4 hK2
  obtain ⟨p0, p1, p2, p3⟩ := tmBox hB2
  have HB2 := Lib.hid hB2
  have HK2 := Lib.hid hK2
  clear hS0 hS1 hS2 hB0 hB1 hB2 hK0 hK1 hK2 hb2 hb3 hkb hbV hax
  cases h3 : q.kind == 3
  · go_wp2_with fail
    refine (example_any _).mono ?_
    rintro e w4 ⟨rfl, hb4⟩
    have HB4 := Lib.hid (bNext (bBox HB2.out) hb4)
    clear hb4
    go_wp2_with fail
    go_ret
    exact ⟨rfl, HB4.out⟩
  · obtain ⟨hval, -, hl1, hl8⟩ := key_kind3 (t := t) (by rw [HQ.out]; simpa using h3)
    have HVL := Lib.hid hval
    clear hval
    go_wp2_with fail
    refine (clone_tm t A c w3 HVL.out ((HA.out.later (bBox HB2.out)).more (bBox HB2.out).size)).mono ?_
    rintro e w4 ⟨⟨v4, rs4, rfl, hrs4, hm4⟩, hb4⟩
    obtain ⟨A4, c4, rfl⟩ := hm4.form
    have hl4 : rs4.length = t.args.length := by simpa using congrArg List.length hrs4
    obtain ⟨g, cap, e4⟩ := own_some hm4.own (by omega)
    injection e4 with e41 _ e42
    subst e41 e42
    obtain ⟨n, hn⟩ : ∃ n, rs4.length = n := ⟨_, rfl⟩
    rw [hn]
    have hn1 : 1 ≤ n := by omega
    have hn8 : n ≤ 8 := by omega
    obtain ⟨X, HXw⟩ : ∃ X, Hid (X = w4.alloc (.cells #[.int .i64 t.kind, .int .i64 t.n, .string t.name, .slice (some ⟨g, 0, none⟩) n c4] 47)) := ⟨_, rfl⟩
    obtain ⟨cb, HCB⟩ : ∃ cb, Hid (cb = w4.heap.size) := ⟨_, rfl⟩
    have hcb : Blk X cb 47 #[.int .i64 t.kind, .int .i64 t.n, .string t.name, .slice (some ⟨g, 0, none⟩) n c4] := by rw [HXw.out, HCB.out]; exact Blk.new _ _ _
    have hbX : Below w3.heap.size w3 X := by rw [HXw.out]; exact bNext hb4 (bAlloc _ _)
    have hmX : Mk X w3.heap.size (.slice (some ⟨g, 0, none⟩) n c4) rs4 := by
      rw [HXw.out, ← hn]
      exact hm4.stay (fun b _ hb => Below.heap_alloc _ _ b hb) (by simp)
    have hgc : g < cb := by rw [HCB.out]; exact (hm4.own.lt g rfl).2
    have HN := Lib.hid hn
    have HL4 := Lib.hid hl4
    have HRS := Lib.hid hrs4
    have HMX := Lib.hid hmX
    have HBX := Lib.hid hbX
    clear hb4 hm4 hrs4 hl4 hn hl1 hl8 hbX hmX
    go_wp2_with fail
    rw [← HXw.out, ← HCB.out]
    refine wp_region_N (fun w' => w'.cell? ⟨cb, 3, none⟩ = some (.slice (some ⟨g, 0, none⟩) n c4)) (fun i => decide (i ≠ 10)) (by kernel_rfl) ?_
    have hS6 : (fun w' => w'.cell? ⟨cb, 3, none⟩ = some (.slice (some ⟨g, 0, none⟩) n c4)) X.drew := by have h := hcb.cell 3; simpa using h
    have hz0 : ¬ ((n : Int) = 0) := by omega
    have hiw2 : IntKind.i64.wrap i = i := by rw [IntKind.wrap_i64]; omega
    obtain ⟨j, hj, hjn⟩ : ∃ j : Nat, i.tmod (n : Int) = (j : Int) ∧ j < n := by
      have h1 := Int.emod_nonneg i (by omega : (n : Int) ≠ 0)
      have h2 := Int.emod_lt_of_pos i (by omega : (0 : Int) < n)
      refine ⟨(i % (n : Int)).toNat, ?_, by omega⟩
      rw [Int.tmod_eq_emod_of_nonneg hi0]
      omega
    obtain ⟨csg, hcsg⟩ := own_type HMX.out.own (g := g) rfl
    have hgf : ∀ o, X.frozen? ⟨g, o, none⟩ = false := fun o => Blk.frozen (t := 47) (cs := csg) hcsg o
    obtain ⟨r0, hr0⟩ : ∃ r0, rs4[j]? = some r0 := ⟨_, List.getElem?_eq_getElem (by rw [HN.out]; exact hjn)⟩
    obtain ⟨y0, y1, y2, y3⟩ := tmCs_at hr0
    have hgc2 : ∀ z u, (tmCs rs4)[z]? = some u → X.cell? ⟨g, z, none⟩ = some u := fun z u hz => by
      have h := HMX.out.own.cells (g := g) rfl z u hz
      rw [← h]
      unfold Addr.add
      by_cases hi : z = 0 <;> simp [hi]
    replace y0 := hgc2 _ _ y0
    replace y1 := hgc2 _ _ y1
    replace y2 := hgc2 _ _ y2
    replace y3 := hgc2 _ _ y3
    clear hgc2 hcsg
    refine wpAnyN_take (i := 0) (v := ?v3) rfl (by kernel_rfl) (by kernel_rfl) (by kernel_rfl) (by kernel_rfl) (fun _ _ _ h => h) (Or.inl ⟨by rfl, ?hy3⟩) (by assumption) ?_
    case hy3 => intro w hSw; (try dsimp only at hSw); go_simp; try with_reducible rfl
    simp only [Act.put, List.getElem_toArray, List.getElem_cons_zero, List.setIfInBounds_toArray, List.set_cons_zero, List.set_cons_succ]
    refine wpAnyN_take (i := 1) (v := ?v4) rfl (by kernel_rfl) (by kernel_rfl) (by kernel_rfl) (by kernel_rfl) (fun _ _ _ h => h) (Or.inl ⟨by rfl, ?hy4⟩) (by assumption) ?_
    case hy4 => intro w hSw; (try dsimp only at hSw); go_simp; try with_reducible rfl
    simp only [Act.put, List.getElem_toArray, List.getElem_cons_zero, List.getElem_cons_succ, List.setIfInBounds_toArray, List.set_cons_zero, List.set_cons_succ]
    refine wpAnyN_take (i := 2) (v := ?v5) rfl (by kernel_rfl) (by kernel_rfl) (by kernel_rfl) (by kernel_rfl) (fun _ _ _ h => h) (Or.inl ⟨by rfl, ?hy5⟩) (by assumption) ?_
    case hy5 => intro w hSw; (try dsimp only at hSw); go_simp; try with_reducible rfl
    simp only [Act.put, List.getElem_toArray, List.getElem_cons_zero, List.getElem_cons_succ, List.setIfInBounds_toArray, List.set_cons_zero, List.set_cons_succ]
    refine wpAnyN_take (i := 3) (v := ?v6) rfl (by kernel_rfl) (by kernel_rfl) (by kernel_rfl) (by kernel_rfl) (fun _ _ _ h => h) (Or.inl ⟨by rfl, ?hy6⟩) (by assumption) ?_
    case hy6 => intro w hSw; (try dsimp only at hSw); go_simp; try with_reducible rfl
    simp only [Act.put, List.getElem_toArray, List.getElem_cons_zero, List.getElem_cons_succ, List.setIfInBounds_toArray, List.set_cons_zero, List.set_cons_succ]
    refine wpAnyN_take (i := 4) (v := ?v7) rfl (by kernel_rfl) (by kernel_rfl) (by kernel_rfl) (by kernel_rfl) (fun _ _ _ h => h) (Or.inl ⟨by rfl, ?hy7⟩) (by assumption) ?_
    case hy7 => intro w hSw; (try dsimp only at hSw); go_simp; try with_reducible rfl
    simp only [Act.put, List.getElem_toArray, List.getElem_cons_zero, List.getElem_cons_succ, List.setIfInBounds_toArray, List.set_cons_zero, List.set_cons_succ]
    refine wpAnyN_take (i := 5) (v := ?v8) rfl (by kernel_rfl) (by kernel_rfl) (by kernel_rfl) (by kernel_rfl) (fun _ _ _ h => h) (Or.inl ⟨by rfl, ?hy8⟩) (by assumption) ?_
    case hy8 => intro w hSw; (try dsimp only at hSw); go_simp; try with_reducible rfl
    simp only [Act.put, List.getElem_toArray, List.getElem_cons_zero, List.getElem_cons_succ, List.setIfInBounds_toArray, List.set_cons_zero, List.set_cons_succ]
    refine wpAnyN_take (i := 6) (v := ?v9) rfl (by kernel_rfl) (by kernel_rfl) (by kernel_rfl) (by kernel_rfl) (fun _ _ _ h => h) (Or.inl ⟨by rfl, ?hy9⟩) (by assumption) ?_
    case hy9 => intro w hSw; (try dsimp only at hSw); go_simp; try with_reducible rfl
    simp only [Act.put, List.getElem_toArray, List.getElem_cons_zero, List.getElem_cons_succ, List.setIfInBounds_toArray, List.set_cons_zero, List.set_cons_succ]
    refine wpAnyN_take (i := 7) (v := ?v10) rfl (by kernel_rfl) (by kernel_rfl) (by kernel_rfl) (by kernel_rfl) (fun _ _ _ h => h) (Or.inl ⟨by rfl, ?hy10⟩) (by assumption) ?_
    case hy10 => intro w hSw; (try dsimp only at hSw); go_simp; rw [if_neg (by omega)]
    simp only [Act.put, List.getElem_toArray, List.getElem_cons_zero, List.getElem_cons_succ, List.setIfInBounds_toArray, List.set_cons_zero, List.set_cons_succ]
    refine wpAnyN_take (i := 8) (v := ?v11) rfl (by kernel_rfl) (by kernel_rfl) (by kernel_rfl) (by kernel_rfl) (fun _ _ _ h => h) (Or.inl ⟨by rfl, ?hy11⟩) (by assumption) ?_
    case hy11 => intro w hSw; (try dsimp only at hSw); go_simp; try with_reducible rfl
    simp only [Act.put, List.getElem_toArray, List.getElem_cons_zero, List.getElem_cons_succ, List.setIfInBounds_toArray, List.set_cons_zero, List.set_cons_succ]
    refine wpAnyN_one (i := 9) (by kernel_rfl) rfl (fun K hK => ?_)
    simp only [List.getElem_toArray, List.getElem_cons_zero, List.getElem_cons_succ]
    go_simp
    refine hK _ _ (fun _ => hS6) ?_
    refine wpAnyN_one (i := 10) (by kernel_rfl) rfl (fun K hK => ?_)
    simp only [List.getElem_toArray, List.getElem_cons_zero, List.getElem_cons_succ]
    go_simp
    refine hK _ _ (fun h => absurd h (by decide)) ?_
    refine wpAnyN_done (by kernel_rfl) ?_ _
    obtain ⟨Z, HZ⟩ : ∃ Z, Hid (Z = ((((X.setCell ⟨g, j * 4, none⟩ (.int .i64 1)).setCell ⟨g, j * 4 + 1, none⟩ (.int .i64 3)).setCell ⟨g, j * 4 + 2, none⟩ (.string { data := #[] })).setCell ⟨g, j * 4 + 3, none⟩ (.slice none 0 0)).drew) := ⟨_, rfl⟩
    rw [← HZ.out]
    have hjl : j < rs4.length := by rw [HN.out]; exact hjn
    have hm0 : Mk X w3.heap.size (.slice (some ⟨g, 0, none⟩) rs4.length c4) rs4 := by rw [HN.out]; exact HMX.out
    have hmZ : Mk Z w3.heap.size (.slice (some ⟨g, 0, none⟩) (rs4.set j (three, none, 0)).length c4) (rs4.set j (three, none, 0)) := by
      rw [HZ.out]
      have h := hm0.put (j := j) hjl
      rw [List.length_set]
      exact h.stay (fun _ _ _ => rfl) (Nat.le_refl _)
    have hg3 : w3.heap.size ≤ g := (HMX.out.own.lt g rfl).1
    have hZk : ∀ b, b ≠ g → Z.heap[b]? = X.heap[b]? := fun b hb => by
      rw [HZ.out]
      show (((((X.setCell ⟨g, j * 4, none⟩ (.int .i64 1)).setCell ⟨g, j * 4 + 1, none⟩ (.int .i64 3)).setCell ⟨g, j * 4 + 2, none⟩ (.string { data := #[] })).setCell ⟨g, j * 4 + 3, none⟩ (.slice none 0 0)).heap[b]?) = _
      repeat rw [heap_setCell_other _ _ _ _ (by simpa using hb)]
    have hcbZ : Blk Z cb 47 #[.int .i64 t.kind, .int .i64 t.n, .string t.name, .slice (some ⟨g, 0, none⟩) n c4] := (hZk cb (by omega)).trans hcb
    have hbZ0 : Below w3.heap.size X Z := by
      rw [HZ.out]
      exact bDrewN (((((Below.refl _ X).setCell (p := ⟨g, j * 4, none⟩) hg3 _).setCell (p := ⟨g, j * 4 + 1, none⟩) hg3 _).setCell (p := ⟨g, j * 4 + 2, none⟩) hg3 _).setCell (p := ⟨g, j * 4 + 3, none⟩) hg3 _) 1
    have hbZ : Below w3.heap.size w3 Z := HBX.out.trans hbZ0
    have hkZ := HK2.out.below hbZ hkw2
    have hset : (setT t j).args = (rs4.set j (three, none, 0)).map (·.1) := by rw [List.map_set, HRS.out]; rfl
    have hsl : (setT t j).args.length = n := by rw [hset, List.length_map, List.length_set, HN.out]
    have hv : Tm.v (setT t j) (some ⟨g, 0, none⟩) c4 = .agg #[.int .i64 t.kind, .int .i64 t.n, .string t.name, .slice (some ⟨g, 0, none⟩) n c4] := by
      unfold Tm.v
      rw [hsl]
      rfl
    have hAZ : ArgsAt Z (Old Z.heap.size) (some ⟨g, 0, none⟩) (setT t j).args := by
      rw [hset]
      exact (hmZ.read (by rw [List.length_set, HN.out]; omega)).keep (fun _ _ => rfl) (fun _ h => h.2)
    have HAZ := Lib.hid hAZ
    have HVv := Lib.hid hv
    have HBZ := Lib.hid (HB2.out.trans (hbZ.mono (by have := HB2.out.size; simpa using this)))
    have HCZ := Lib.hid hcbZ
    have HKZ := Lib.hid hkZ
    have HKS := Lib.hid ((key_set HVL.out j).trans HQ.out)
    clear hS6 hAZ hv hset hsl hkZ hbZ hbZ0 hcbZ hZk hmZ hm0 hcb y0 y1 y2 y3 hgf
    go_wp2_with fail
    refine wp_region_N (fun w' => w'.cell? ⟨cb, 0, none⟩ = some (.int .i64 t.kind) ∧ w'.cell? ⟨cb, 1, none⟩ = some (.int .i64 t.n) ∧ w'.cell? ⟨cb, 2, none⟩ = some (.string t.name) ∧ w'.cell? ⟨cb, 3, none⟩ = some (.slice (some ⟨g, 0, none⟩) n c4) ∧ w'.cell? ⟨kb, 0, none⟩ = some (.int .i64 q.kind) ∧ w'.cell? ⟨kb, 1, none⟩ = some (.int .i64 q.n) ∧ w'.cell? ⟨kb, 2, none⟩ = some (.string q.name) ∧ w'.cell? ⟨kb, 3, none⟩ = some (.int .i64 q.ar)) (fun _ => true) (by kernel_rfl) ?_
    have hS7 : (fun w' => w'.cell? ⟨cb, 0, none⟩ = some (.int .i64 t.kind) ∧ w'.cell? ⟨cb, 1, none⟩ = some (.int .i64 t.n) ∧ w'.cell? ⟨cb, 2, none⟩ = some (.string t.name) ∧ w'.cell? ⟨cb, 3, none⟩ = some (.slice (some ⟨g, 0, none⟩) n c4) ∧ w'.cell? ⟨kb, 0, none⟩ = some (.int .i64 q.kind) ∧ w'.cell? ⟨kb, 1, none⟩ = some (.int .i64 q.n) ∧ w'.cell? ⟨kb, 2, none⟩ = some (.string q.name) ∧ w'.cell? ⟨kb, 3, none⟩ = some (.int .i64 q.ar)) Z.drew := by have h := HCZ.out.cell; exact ⟨h 0, h 1, h 2, h 3, keyCells4 HKZ.out⟩
    refine wpAnyN_take (i := 0) (v := ?v12) rfl (by kernel_rfl) (by kernel_rfl) (by kernel_rfl) (by kernel_rfl) (fun _ _ _ h => h) (Or.inl ⟨by rfl, ?hy12⟩) (by assumption) ?_
    case hy12 => intro w hSw; (try dsimp only at hSw); go_simp; try with_reducible rfl
    simp only [Act.put, List.getElem_toArray, List.getElem_cons_zero, List.setIfInBounds_toArray, List.set_cons_zero, List.set_cons_succ]
    refine wpAnyN_take (i := 2) (v := ?v13) rfl (by kernel_rfl) (by kernel_rfl) (by kernel_rfl) (by kernel_rfl) (fun _ _ _ h => h) (Or.inl ⟨by rfl, ?hy13⟩) (by assumption) ?_
    case hy13 => intro w hSw; (try dsimp only at hSw); go_simp; try with_reducible rfl
    simp only [Act.put, List.getElem_toArray, List.getElem_cons_zero, List.getElem_cons_succ, List.setIfInBounds_toArray, List.set_cons_zero, List.set_cons_succ]
    refine wpAnyN_one (i := 1) (by kernel_rfl) rfl (fun K hK => ?_)
    simp only [List.getElem_toArray, List.getElem_cons_zero, List.getElem_cons_succ]
    go_simp
    have hkp := keyP_any (setT t j) (some ⟨g, 0, none⟩) c4 Z.drew (HAZ.out.keep (fun _ _ => rfl) (fun _ h => h))
    rw [HVv.out, HKS.out] at hkp
    refine hkp.mono ?_
    rintro e w8 ⟨rfl, hb8⟩
    have hb8' : Below Z.heap.size Z w8 := (bDrewN (Below.refl Z.heap.size Z) 1).trans hb8
    have hS8 : (fun w' => w'.cell? ⟨cb, 0, none⟩ = some (.int .i64 t.kind) ∧ w'.cell? ⟨cb, 1, none⟩ = some (.int .i64 t.n) ∧ w'.cell? ⟨cb, 2, none⟩ = some (.string t.name) ∧ w'.cell? ⟨cb, 3, none⟩ = some (.slice (some ⟨g, 0, none⟩) n c4) ∧ w'.cell? ⟨kb, 0, none⟩ = some (.int .i64 q.kind) ∧ w'.cell? ⟨kb, 1, none⟩ = some (.int .i64 q.n) ∧ w'.cell? ⟨kb, 2, none⟩ = some (.string q.name) ∧ w'.cell? ⟨kb, 3, none⟩ = some (.int .i64 q.ar)) w8 := by
      have h1 := HCZ.out.below hb8' HCZ.out.lt
      have h2 := HKZ.out.below hb8' HKZ.out.lt
      exact ⟨h1.cell 0, h1.cell 1, h1.cell 2, h1.cell 3, keyCells4 h2⟩
    refine hK _ _ (fun _ => hS8) ?_
    refine wpAnyN_one (i := 3) (by kernel_rfl) rfl (fun K hK => ?_)
    simp only [List.getElem_toArray, List.getElem_cons_zero, List.getElem_cons_succ]
    go_simp
    refine hK _ _ (fun _ => hS8) ?_
    refine wpAnyN_done (by kernel_rfl) ?_ _
    have HB8 := Lib.hid (bNext (bDrewN (bBox HBZ.out) 1) hb8)
    clear hS7 hS8 hb8 hb8' hkp
    go_wp2_with fail
    refine (example_any _).mono ?_
    rintro e w9 ⟨rfl, hb9⟩
    have HB9 := Lib.hid (bNext HB8.out hb9)
    clear hb9
    go_wp2_with fail
    go_ret
    exact ⟨rfl, HB9.out⟩
end Go.Proofs.Ytpkpdjekoghkcaa
