/-
  Walks: the canonical form and the copy of a term.
-/
import Derived.Test.YtpkpdjekoghkcaaTp
namespace Go.Proofs.Ytpkpdjekoghkcaa
open Go.RowKit

theorem bNone {w w1 : World} (h : w.grownBy w1 none) : Below w.heap.size w w1 := (Below.refl _ _).grown h (Nat.le_refl _) (fun k hk => by cases hk)
@[reducible] def zeroT : Tm := .mk 0 0 .empty []
theorem key_zeroT : keyT zeroT = zeroK := by simp [keyT, zeroT, Tm.kind]
theorem key_bad {t : Tm} (h : validT t = false) : keyT t = zeroK := by simp [keyT, h]

theorem canon_args (t : Tm) : (canonT t).args = t.args.map (mapT (numF (varsT t []))) := by rw [canonT, mapT_eq]; rfl
theorem canon_v (t : Tm) (A : Option Addr) (c : Nat) : Tm.v (canonT t) A c = .agg #[.int .i64 t.kind, .int .i64 (numF (varsT t []) t.kind t.n), .string t.name, .slice A t.args.length c] := by
  have h : (canonT t).args.length = t.args.length := by rw [canon_args, List.length_map]
  unfold Tm.v
  rw [h, canonT, mapT_eq]
  rfl

set_option maxHeartbeats 1000000 in
theorem canon_any (t : Tm) (A : Option Addr) (c : Nat) (w : World) (ha : ArgsAt w (Old w.heap.size) A t.args) :
    Calls Try.prog 31 #[t.v A c] w fun e w' => (∃ x A' c', e = .returned (Tm.v x A' c') ∧ keyT x = keyT t ∧ ArgsAt w' (Old w'.heap.size) A' x.args) ∧ Below w.heap.size w w' := by
  have HA := Lib.hid ha
  clear ha
  go_enter Try.func31, Try.ntmps31
  go_wp2_with fail
  refine (valid03_any t A c _ ((HA.out.later ((bAlloc _ _).alloc (by simp) _)).more (by simp; omega))).mono ?_
  rintro e w1 ⟨rfl, hb1⟩
  have hb0 : Below (w.heap.size + 1) (w.alloc (t.o A c)) ((w.alloc (t.o A c)).alloc (.cells #[.int .i64 0, .int .i64 0, .string .empty, .slice none 0 0] 47)) := by simpa using bAlloc (w.alloc (t.o A c)) _
  have hbx := hb0.trans (hb1.mono (by simp))
  have hr : Blk w1 (w.heap.size + 1) 47 #[.int .i64 0, .int .i64 0, .string .empty, .slice none 0 0] := by
    have h := Blk.new (w.alloc (t.o A c)) 47 #[.int .i64 0, .int .i64 0, .string .empty, .slice none 0 0]
    rw [World.size_alloc] at h
    exact h.below hb1 (by simp)
  obtain ⟨p0, p1, p2, p3⟩ := tmBox hbx
  have HR := Lib.hid hr
  have zr := hr.lt
  have HX := Lib.hid hbx
  have HW := Lib.hid (bBox hbx)
  clear hb0 hb1 hbx hr
  cases hv : validT t
  · have HK := Lib.hid (key_bad hv)
    clear hv
    have hr := HR.out
    have r0 := hr.cell 0
    have r1 := hr.cell 1
    have r2 := hr.cell 2
    have r3 := hr.cell 3
    have f0 := hr.frozen 0
    have f1 := hr.frozen 1
    have f2 := hr.frozen 2
    have f3 := hr.frozen 3
    simp at r0 r1 r2 r3
    clear hr
    go_wp2
    refine bodyPost_ret (v := Tm.v zeroT none 0) (by simp [results, Try.results31, go_sem, r0, r1, r2, r3]; exact ⟨rfl, rfl, rfl, rfl⟩) rfl ⟨⟨zeroT, none, 0, rfl, by rw [HK.out, key_zeroT], .nil _⟩, ?_⟩
    repeat refine Below.setCell ?_ (by simp) _
    exact HW.out
  · have HV := Lib.hid hv
    have hcnt : cnt t ≤ 2000 := by simp only [validT, Bool.and_eq_true, decide_eq_true_eq] at hv; exact hv.1
    clear hv
    go_wp2_with fail
    refine wp_region_N (fun w' => w'.cell? ⟨w.heap.size, 0, none⟩ = some (.int .i64 t.kind) ∧ w'.cell? ⟨w.heap.size, 1, none⟩ = some (.int .i64 t.n) ∧ w'.cell? ⟨w.heap.size, 2, none⟩ = some (.string t.name) ∧ w'.cell? ⟨w.heap.size, 3, none⟩ = some (.slice A t.args.length c)) (fun i => decide (i ≠ 4)) (by kernel_rfl) ?_
    have hB0 : Below (w.heap.size + 1) (w.alloc (t.o A c)) w1.drew := bDrewN HX.out 1
    have hS0 : (fun w' => w'.cell? ⟨w.heap.size, 0, none⟩ = some (.int .i64 t.kind) ∧ w'.cell? ⟨w.heap.size, 1, none⟩ = some (.int .i64 t.n) ∧ w'.cell? ⟨w.heap.size, 2, none⟩ = some (.string t.name) ∧ w'.cell? ⟨w.heap.size, 3, none⟩ = some (.slice A t.args.length c)) w1.drew := tmBox hB0
    refine wpAnyN_take (i := 0) (v := ?v1) rfl (by kernel_rfl) (by kernel_rfl) (by kernel_rfl) (by kernel_rfl) (fun _ _ _ h => h) (Or.inl ⟨by rfl, ?hy1⟩) (by assumption) ?_
    case hy1 => intro w hSw; (try dsimp only at hSw); go_simp; try with_reducible rfl
    simp only [Act.put, List.getElem_toArray, List.getElem_cons_zero, List.setIfInBounds_toArray, List.set_cons_zero, List.set_cons_succ]
    refine wpAnyN_take (i := 2) (v := ?v2) rfl (by kernel_rfl) (by kernel_rfl) (by kernel_rfl) (by kernel_rfl) (fun _ _ _ h => h) (Or.inl ⟨by rfl, ?hy2⟩) (by assumption) ?_
    case hy2 => intro w hSw; (try dsimp only at hSw); go_simp; try with_reducible rfl
    simp only [Act.put, List.getElem_toArray, List.getElem_cons_zero, List.getElem_cons_succ, List.setIfInBounds_toArray, List.set_cons_zero, List.set_cons_succ]
    refine wpAnyN_one (i := 1) (by kernel_rfl) rfl (fun K hK => ?_)
    simp only [List.getElem_toArray, List.getElem_cons_zero, List.getElem_cons_succ]
    go_simp
    refine (vars_any _ t (Nat.lt_succ_self _) A c w1.drew.heap.size 0 (.slice none 0 0) [] w1.drew (Nat.le_refl _) (by omega) (World.ownsRow_nil _ _ _ _) ((HA.out.later (bBox hB0)).more (bBox hB0).size)).mono ?_
    rintro e w2 ⟨v2, n2, rfl, ho2, hg2, -⟩
    obtain ⟨A2, c2, rfl, hI2⟩ := own_ints ho2 (by have h1 := ho2.1; have h2 := varsT_len _ t [] (Nat.lt_succ_self _); simp at h1 h2; omega)
    have hb2 := bNone hg2
    have hB2 := hB0.trans (hb2.mono (by have := hB0.size; simpa using this))
    have hS2 : (fun w' => w'.cell? ⟨w.heap.size, 0, none⟩ = some (.int .i64 t.kind) ∧ w'.cell? ⟨w.heap.size, 1, none⟩ = some (.int .i64 t.n) ∧ w'.cell? ⟨w.heap.size, 2, none⟩ = some (.string t.name) ∧ w'.cell? ⟨w.heap.size, 3, none⟩ = some (.slice A t.args.length c)) w2 := tmBox hB2
    refine hK _ _ (fun _ => hS2) ?_
    refine wpAnyN_one (i := 3) (by kernel_rfl) rfl (fun K hK => ?_)
    simp only [List.getElem_toArray, List.getElem_cons_zero, List.getElem_cons_succ]
    go_simp
    refine (number_any _ t (Nat.lt_succ_self _) (by omega) A c A2 n2 c2 (varsT t []) w2 hI2 ((HA.out.later (bBox hB2)).more (bBox hB2).size)).mono ?_
    rintro e w3 ⟨⟨v3, rs3, rfl, hrs3, hm3⟩, hb3⟩
    obtain ⟨A3, c3, rfl⟩ := hm3.form
    have HL3 := Lib.hid (show rs3.length = t.args.length by simpa using congrArg List.length hrs3)
    have hB3 := hB2.trans (hb3.mono (by have := hB2.size; simpa using this))
    have hS3 : (fun w' => w'.cell? ⟨w.heap.size, 0, none⟩ = some (.int .i64 t.kind) ∧ w'.cell? ⟨w.heap.size, 1, none⟩ = some (.int .i64 t.n) ∧ w'.cell? ⟨w.heap.size, 2, none⟩ = some (.string t.name) ∧ w'.cell? ⟨w.heap.size, 3, none⟩ = some (.slice A t.args.length c)) w3 := tmBox hB3
    refine hK _ _ (fun _ => hS3) ?_
    have hr3 : Blk w3 (w.heap.size + 1) 47 #[.int .i64 0, .int .i64 0, .string .empty, .slice none 0 0] := by
      have hr1 : Blk w1.drew (w.heap.size + 1) 47 #[.int .i64 0, .int .i64 0, .string .empty, .slice none 0 0] := HR.out
      have h1 : w.heap.size + 1 < w1.drew.heap.size := zr
      have h2 := hb2.size
      exact (hr1.below hb2 h1).below hb3 (by omega)
    have HR3 := Lib.hid hr3
    have hr := HR3.out
    have r0 := hr.cell 0
    have r1 := hr.cell 1
    have r2 := hr.cell 2
    have r3 := hr.cell 3
    have f0 := hr.frozen 0
    have f1 := hr.frozen 1
    have f2 := hr.frozen 2
    have f3 := hr.frozen 3
    simp at r0 r1 r2 r3
    clear hr
    clear hr3
    have hzz : w.heap.size + 1 < w3.heap.size := HR3.out.lt
    refine wpAnyN_one (i := 4) (by kernel_rfl) rfl (fun K hK => ?_)
    simp only [List.getElem_toArray, List.getElem_cons_zero, List.getElem_cons_succ]
    go_simp
    refine hK _ _ (fun h => absurd h (by decide)) ?_
    refine wpAnyN_done (by kernel_rfl) ?_ _
    have HM := Lib.hid hm3
    have HRS := Lib.hid hrs3
    have HB := Lib.hid (bBox hB3)
    have hzw := (bBox hB0).size
    have hzw2 : w1.drew.heap.size = w1.heap.size := rfl
    have hzb2 := hb2.size
    clear hS0 hS2 hS3 hm3 hrs3 hB3 hB2 hb3 hb2 hg2 ho2 hI2 hB0
    go_wp2
    refine bodyPost_ret (v := .agg #[.int .i64 t.kind, .int .i64 (numF (varsT t []) t.kind t.n), .string t.name, .slice A3 rs3.length c3]) (by simp [results, Try.results31, go_sem, r0, r1, r2, r3]) rfl ⟨⟨canonT t, A3, c3, ?_, key_canon HV.out, ?_⟩, ?_⟩
    · rw [canon_v, HL3.out]
    · rw [canon_args, ← HRS.out]
      have h := HM.out.stay (w' := ((((w3.setCell ⟨w.heap.size + 1, 0, none⟩ (.int .i64 t.kind)).setCell ⟨w.heap.size + 1, 1, none⟩ (.int .i64 (numF (varsT t []) t.kind t.n))).setCell ⟨w.heap.size + 1, 2, none⟩ (.string t.name)).setCell ⟨w.heap.size + 1, 3, none⟩ (.slice A3 rs3.length c3))) (fun b hb _ => by repeat rw [heap_setCell_other _ _ _ _ (by simp; omega)]) (by simp)
      exact (h.read (by rw [HL3.out]; have := args_le t; omega)).keep (fun _ _ => rfl) (fun b hb => hb.2)
    · repeat refine Below.setCell ?_ (by simp) _
      exact HB.out

set_option maxHeartbeats 1000000 in
theorem clone_tm (t : Tm) (A : Option Addr) (c : Nat) (w : World) (hv : validT t = true) (ha : ArgsAt w (Old w.heap.size) A t.args) :
    Calls Try.prog 32 #[t.v A c] w fun e w' => (∃ v rs, e = .returned (.agg #[.int .i64 t.kind, .int .i64 t.n, .string t.name, v]) ∧ rs.map (·.1) = t.args ∧ Mk w' w.heap.size v rs) ∧ Below w.heap.size w w' := by
  have hcnt : cnt t ≤ 2000 := by simp only [validT, Bool.and_eq_true, decide_eq_true_eq] at hv; exact hv.1
  have HA := Lib.hid ha
  clear ha
  go_enter Try.func32, Try.ntmps32
  go_wp2_with fail
  refine (valid03_any t A c _ ((HA.out.later ((bAlloc _ _).alloc (by simp) _)).more (by simp; omega))).mono ?_
  rintro e w1 ⟨rfl, hb1⟩
  have hb0 : Below (w.heap.size + 1) (w.alloc (t.o A c)) ((w.alloc (t.o A c)).alloc (.cells #[.int .i64 0, .int .i64 0, .string .empty, .slice none 0 0] 47)) := by simpa using bAlloc (w.alloc (t.o A c)) _
  have hbx := hb0.trans (hb1.mono (by simp))
  have hr : Blk w1 (w.heap.size + 1) 47 #[.int .i64 0, .int .i64 0, .string .empty, .slice none 0 0] := by
    have h := Blk.new (w.alloc (t.o A c)) 47 #[.int .i64 0, .int .i64 0, .string .empty, .slice none 0 0]
    rw [World.size_alloc] at h
    exact h.below hb1 (by simp)
  obtain ⟨p0, p1, p2, p3⟩ := tmBox hbx
  have HR := Lib.hid hr
  have zr := hr.lt
  have HX := Lib.hid hbx
  have HW := Lib.hid (bBox hbx)
  clear hb0 hb1 hbx hr
  rw [hv]
  go_wp2_with fail
  refine (copied_any _ t (Nat.lt_succ_self _) (by omega) A c w1 ((HA.out.later HW.out).more HW.out.size)).mono ?_
  rintro e w2 ⟨⟨v2, rs2, rfl, hrs2, hm2⟩, hb2⟩
  obtain ⟨A2, c2, rfl⟩ := hm2.form
  have hr2 := HR.out.below hb2 (by omega)
  have HR2 := Lib.hid hr2
  have hr := HR2.out
  have r0 := hr.cell 0
  have r1 := hr.cell 1
  have r2 := hr.cell 2
  have r3 := hr.cell 3
  have f0 := hr.frozen 0
  have f1 := hr.frozen 1
  have f2 := hr.frozen 2
  have f3 := hr.frozen 3
  simp at r0 r1 r2 r3
  clear hr
  clear hr2
  have hzz : w.heap.size + 1 < w2.heap.size := HR2.out.lt
  have HB := Lib.hid (HX.out.trans (hb2.mono (by have := HX.out.size; simp at this; omega)))
  have HM := Lib.hid hm2
  have HRS := Lib.hid hrs2
  have hzw := HW.out.size
  have hzb := hb2.size
  clear hm2 hrs2 hb2
  go_wp2
  refine bodyPost_ret (v := .agg #[.int .i64 t.kind, .int .i64 t.n, .string t.name, .slice A2 rs2.length c2]) (by simp [results, Try.results32, go_sem, r0, r1, r2, r3]) rfl ⟨⟨_, rs2, rfl, ?_, ?_⟩, ?_⟩
  · rw [HRS.out]
    have h := mapT_id _ t (Nat.lt_succ_self _)
    rw [mapT_eq] at h
    have h2 := congrArg Tm.args h
    simpa [Tm.args] using h2
  · refine (HM.out.stay (fun b hb _ => ?_) (by simp)).base (by omega)
    repeat rw [heap_setCell_other _ _ _ _ (by simp; omega)]
  · repeat refine Below.setCell ?_ (by simp) _
    exact bBox HB.out
end Go.Proofs.Ytpkpdjekoghkcaa
