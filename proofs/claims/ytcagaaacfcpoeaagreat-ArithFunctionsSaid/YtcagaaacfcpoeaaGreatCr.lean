/-
  Walks: Call.
-/
import Derived.Test.YtcagaaacfcpoeaaGreatCq
namespace Go.Proofs.YtcagaaacfcpoeaaGreat
open Go.RowKit

/-- what Call returns: answers, ball, error -/
def callV (t : Tm) : List Tm × Tm × Int :=
  if (validT t && sameT t (canonT t)) = false then ([], zeroT, 1) else if (t.kind == 3 && hasS t.name (t.args.length : Int)) = false then ([], zeroT, 4)
  else match t.args with
    | [x, y] => (match callL t.name x y with | .ok l => (l, zeroT, 0) | .error b => ([], b, 8))
    | _ => ([], zeroT, 0)
theorem callV_bad {t : Tm} (h : (validT t && sameT t (canonT t)) = false) : callV t = ([], zeroT, 1) := if_pos h
theorem callV_none {t : Tm} (h : (validT t && sameT t (canonT t)) = true) (h2 : (t.kind == 3 && hasS t.name (t.args.length : Int)) = false) : callV t = ([], zeroT, 4) := by
  unfold callV; rw [if_neg (by simp [h]), if_pos h2]
theorem callV_two {s : ByteArray} {x y : Tm} (h : (validT (.mk 3 0 s [x, y]) && sameT (.mk 3 0 s [x, y]) (canonT (.mk 3 0 s [x, y]))) = true) (h2 : hasS s 2 = true) :
    callV (.mk 3 0 s [x, y]) = match callL s x y with | .ok l => (l, zeroT, 0) | .error b => ([], b, 8) := by
  unfold callV; rw [if_neg (by simp [h]), if_neg (by simp [Tm.kind, Tm.name, Tm.args, h2])]; rfl
def CallR (w : World) (r : List Tm × Tm × Int) (e : Ending) (w' : World) : Prop := ∃ v A c, e = .returned (.tuple #[v, Tm.v r.2.1 A c, .int .i64 r.2.2]) ∧ OutAt w' (Btw w.heap.size w'.heap.size) v r.1 ∧ ArgsAt w' (Btw w.heap.size w'.heap.size) A r.2.1.args
theorem hasS_two {t : Tm} (h : validT t = true) (h2 : (t.kind == 3 && hasS t.name (t.args.length : Int)) = true) : ∃ s x y, t = .mk 3 0 s [x, y] ∧ ((s.toList == [105, 115]) = true ∨ (lookS cmpT s).isSome = true) ∧ hasS s 2 = true := by
  obtain ⟨k, n, s, a⟩ := t
  simp only [Tm.kind, Tm.name, Tm.args, Bool.and_eq_true, beq_iff_eq] at h2
  obtain ⟨rfl, h3⟩ := h2
  have h4 := (validT_ok h).1
  rw [okT_mk] at h4
  simp only [Bool.and_eq_true] at h4
  have h5 := h4.1
  unfold nodeB at h5
  simp at h5
  have h3' := h3
  unfold hasS at h3
  simp only [Bool.and_eq_true, decide_eq_true_eq, Bool.or_eq_true] at h3
  have h6 : a.length = 2 := by omega
  match a, h6 with
  | [x, y], _ =>
    refine ⟨s, x, y, by rw [h5.1.1.1], ?_, h3'⟩
    rcases h3.2 with h | h
    · exact .inr h
    · exact .inl (by rw [← eqS_is]; exact h)
set_option maxRecDepth 100000 in
set_option maxHeartbeats 4000000 in
theorem call18_any (t : Tm) (A : Option Addr) (c : Nat) (w : World) (hrg : rngT t = true) (ha : ArgsAt w (Old w.heap.size) A t.args) :
    Calls Tryz.prog 10 #[t.v A c] w fun e w' => CallR w (callV t) e w' ∧ Below w.heap.size w w' := by
  have HA := Lib.hid ha
  have hlen := ha.len
  clear ha
  obtain ⟨W, HW⟩ : ∃ X, Hid (X = ((w.alloc (.cells #[.int .i64 t.kind, .int .i64 t.n, .string t.name, .slice A t.args.length c] 24)).alloc (.cells #[.slice none 0 0] 22)).alloc (.cells #[.int .i64 0, .int .i64 0, .string { data := #[] }, .slice none 0 0] 24)) := ⟨_, rfl⟩
  have hbW : Below w.heap.size w W := by rw [HW.out]; exact ((bAlloc w _).alloc (by simp) _).alloc (by simp; omega) _
  obtain ⟨q, hq⟩ : ∃ q, Hid (q = w.heap.size) := ⟨_, rfl⟩
  obtain ⟨pa, hpa⟩ : ∃ q, Hid (q = w.heap.size + 1) := ⟨_, rfl⟩
  obtain ⟨r, hr⟩ : ∃ q, Hid (q = w.heap.size + 2) := ⟨_, rfl⟩
  have hk0 : Blk W q 24 #[.int .i64 t.kind, .int .i64 t.n, .string t.name, .slice A t.args.length c] := by rw [HW.out, hq.out]; exact ((Blk.new w _ _).alloc _).alloc _
  have hk1 : Blk W pa 22 #[.slice none 0 0] := by
    rw [HW.out, hpa.out]
    have h1 := (Blk.new (w.alloc (.cells #[.int .i64 t.kind, .int .i64 t.n, .string t.name, .slice A t.args.length c] 24)) 22 #[.slice none 0 0]).alloc (.cells #[.int .i64 0, .int .i64 0, .string { data := #[] }, .slice none 0 0] 24)
    rw [World.size_alloc] at h1
    exact h1
  have hk2 : Blk W r 24 #[.int .i64 0, .int .i64 0, .string { data := #[] }, .slice none 0 0] := by
    rw [HW.out, hr.out]
    have h1 := Blk.new ((w.alloc (.cells #[.int .i64 t.kind, .int .i64 t.n, .string t.name, .slice A t.args.length c] 24)).alloc (.cells #[.slice none 0 0] 22)) 24 #[.int .i64 0, .int .i64 0, .string { data := #[] }, .slice none 0 0]
    rw [World.size_alloc, World.size_alloc] at h1
    exact h1
  have HB0 := Lib.hid hbW
  have HK0 := Lib.hid hk0
  have HN0 := Lib.hid hk1
  have HR0 := Lib.hid hk2
  have hqp : q ≠ pa := by rw [hq.out, hpa.out]; omega
  have hqr : q ≠ r := by rw [hq.out, hr.out]; omega
  have hnr : pa ≠ r := by rw [hpa.out, hr.out]; omega
  have hqw : w.heap.size ≤ q := by rw [hq.out]; exact Nat.le_refl _
  have hnw : w.heap.size ≤ pa := by rw [hpa.out]; omega
  have hrw : w.heap.size ≤ r := by rw [hr.out]; omega
  clear hbW hk0 hk1 hk2
  go_enter Tryz.func10, Tryz.ntmps10
  go_upto_region 1 with fail
  rw [← HW.out, ← hr.out, ← hpa.out, ← hq.out]
  clear HW
  obtain ⟨D, hD⟩ : ∃ X, Hid (X = W.drew) := ⟨_, rfl⟩
  have hd : Below W.heap.size W D := by rw [hD.out]; exact bDrewN (Below.refl _ _) 1
  have hS0 : Below W.heap.size W D := hd
  refine wp_region_N (fun w' => Below W.heap.size W w') (fun _ => true) (by kernel_rfl) ?_
  rw [← hD.out]
  have HBD := Lib.hid (bNext HB0.out hd)
  clear hD hd
  refine wpAnyN_take (i := 0) (v := ?v1) rfl (by kernel_rfl) (by kernel_rfl) (by kernel_rfl) (by kernel_rfl) (fun _ _ _ h => h) (Or.inl ⟨by rfl, ?hy1⟩) (by assumption) ?_
  case hy1 => intro w hSw; have h := BlkNext HK0.out hSw; have e0 := h.cell 0; have e1 := h.cell 1; have e2 := h.cell 2; have e3 := h.cell 3; have el := h.lt; simp at e0 e1 e2 e3; clear h; go_simp; try with_reducible rfl
  simp only [Act.put, List.getElem_toArray, List.getElem_cons_zero, List.setIfInBounds_toArray, List.set_cons_zero, List.set_cons_succ]
  refine wpAnyN_one (i := 1) (by kernel_rfl) rfl (fun K hK => ?_)
  simp only [List.getElem_toArray, List.getElem_cons_zero, List.getElem_cons_succ]
  go_simp
  refine (validP_any t A c D (ArgsNext HA.out HBD.out)).mono ?_
  rintro e w1 ⟨rfl, hb1⟩
  have hk1 : Below W.heap.size W w1 := bNext hS0 hb1
  refine hK _ _ (fun _ => hk1) ?_
  have HB1 := Lib.hid (bNext HBD.out hb1)
  clear hb1 hS0
  cases hv : validT t
  · have HE := Lib.hid (callV_bad (t := t) (by rw [hv]; rfl))
    clear hv
    (try simp only [Act.put, List.setIfInBounds_toArray, List.set_cons_zero, List.set_cons_succ])
    refine wpAnyN_take (i := 2) (v := ?v2) rfl (by kernel_rfl) (by kernel_rfl) (by kernel_rfl) (by kernel_rfl) (fun _ _ _ h => h) (Or.inl ⟨by rfl, ?hy2⟩) (by assumption) ?_
    case hy2 => intro w hSw; (try dsimp only at hSw); go_simp; try with_reducible rfl
    simp only [Act.put, List.getElem_toArray, List.getElem_cons_zero, List.getElem_cons_succ, List.setIfInBounds_toArray, List.set_cons_zero, List.set_cons_succ]
    refine wpAnyN_take (i := 3) (v := ?v3) rfl (by kernel_rfl) (by kernel_rfl) (by kernel_rfl) (by kernel_rfl) (fun _ _ _ h => h) (Or.inl ⟨by rfl, ?hy3⟩) (by assumption) ?_
    case hy3 => intro w hSw; (try dsimp only at hSw); go_simp; try with_reducible rfl
    simp only [Act.put, List.getElem_toArray, List.getElem_cons_zero, List.getElem_cons_succ, List.setIfInBounds_toArray, List.set_cons_zero, List.set_cons_succ]
    refine wpAnyN_take (i := 4) (v := undef) rfl (by kernel_rfl) (by kernel_rfl) (by kernel_rfl) (by kernel_rfl) (fun _ _ _ h => h) (Or.inr ⟨by rfl, rfl⟩) (by assumption) ?_
    simp only [Act.put, List.getElem_toArray, List.getElem_cons_zero, List.getElem_cons_succ, List.setIfInBounds_toArray, List.set_cons_zero, List.set_cons_succ]
    refine wpAnyN_take (i := 5) (v := undef) rfl (by kernel_rfl) (by kernel_rfl) (by kernel_rfl) (by kernel_rfl) (fun _ _ _ h => h) (Or.inr ⟨by rfl, rfl⟩) (by assumption) ?_
    simp only [Act.put, List.getElem_toArray, List.getElem_cons_zero, List.getElem_cons_succ, List.setIfInBounds_toArray, List.set_cons_zero, List.set_cons_succ]
    refine wpAnyN_take (i := 6) (v := undef) rfl (by kernel_rfl) (by kernel_rfl) (by kernel_rfl) (by kernel_rfl) (fun _ _ _ h => h) (Or.inr ⟨by rfl, rfl⟩) (by assumption) ?_
    simp only [Act.put, List.getElem_toArray, List.getElem_cons_zero, List.getElem_cons_succ, List.setIfInBounds_toArray, List.set_cons_zero, List.set_cons_succ]
    refine wpAnyN_take (i := 7) (v := undef) rfl (by kernel_rfl) (by kernel_rfl) (by kernel_rfl) (by kernel_rfl) (fun _ _ _ h => h) (Or.inr ⟨by rfl, rfl⟩) (by assumption) ?_
    simp only [Act.put, List.getElem_toArray, List.getElem_cons_zero, List.getElem_cons_succ, List.setIfInBounds_toArray, List.set_cons_zero, List.set_cons_succ]
    refine wpAnyN_take (i := 8) (v := undef) rfl (by kernel_rfl) (by kernel_rfl) (by kernel_rfl) (by kernel_rfl) (fun _ _ _ h => h) (Or.inr ⟨by rfl, rfl⟩) (by assumption) ?_
    simp only [Act.put, List.getElem_toArray, List.getElem_cons_zero, List.getElem_cons_succ, List.setIfInBounds_toArray, List.set_cons_zero, List.set_cons_succ]
    refine wpAnyN_take (i := 9) (v := ?v4) rfl (by kernel_rfl) (by kernel_rfl) (by kernel_rfl) (by kernel_rfl) (fun _ _ _ h => h) (Or.inl ⟨by rfl, ?hy4⟩) (by assumption) ?_
    case hy4 => intro w hSw; (try dsimp only at hSw); go_simp; try with_reducible rfl
    simp only [Act.put, List.getElem_toArray, List.getElem_cons_zero, List.getElem_cons_succ, List.setIfInBounds_toArray, List.set_cons_zero, List.set_cons_succ]
    refine wpAnyN_done (by kernel_rfl) ?_ _
    have HBE := HB1
    have HN1 := Lib.hid (BlkNext HN0.out hk1)
    have HR1 := Lib.hid (BlkNext HR0.out hk1)
    have s0 := HN1.out.cell 0
    have g0 := HN1.out.frozen 0
    have sl := HN1.out.lt
    simp at s0
    have r0 := HR1.out.cell 0
    have f0 := HR1.out.frozen 0
    have r1 := HR1.out.cell 1
    have f1 := HR1.out.frozen 1
    have r2 := HR1.out.cell 2
    have f2 := HR1.out.frozen 2
    have r3 := HR1.out.cell 3
    have f3 := HR1.out.frozen 3
    have rl := HR1.out.lt
    simp at r0 r1 r2 r3
    go_wp2_with fail
    refine bodyPost_ret (v := .tuple #[.slice none 0 0, Tm.v zeroT none 0, .int .i64 1]) (by simp only [results, Tryz.results10, Tm.kind, Tm.n, Tm.name, Tm.args]; go_simp; exact ⟨rfl, rfl, rfl, rfl⟩) rfl ⟨by rw [HE.out]; exact ⟨_, none, 0, rfl, ⟨none, 0, rfl, .nil _⟩, .nil _⟩, ?_⟩
    repeat first | exact HBE.out | refine Below.setCell ?_ hrw _ | refine Below.setCell ?_ hnw _
  · have HV := Lib.hid hv
    clear hv
    (try simp only [Act.put, List.setIfInBounds_toArray, List.set_cons_zero, List.set_cons_succ])
    refine wpAnyN_take (i := 2) (v := ?v5) rfl (by kernel_rfl) (by kernel_rfl) (by kernel_rfl) (by kernel_rfl) (fun _ _ _ h => h) (Or.inl ⟨by rfl, ?hy5⟩) (by assumption) ?_
    case hy5 => intro w hSw; (try dsimp only at hSw); go_simp; try with_reducible rfl
    simp only [Act.put, List.getElem_toArray, List.getElem_cons_zero, List.getElem_cons_succ, List.setIfInBounds_toArray, List.set_cons_zero, List.set_cons_succ]
    refine wpAnyN_take (i := 3) (v := ?v6) rfl (by kernel_rfl) (by kernel_rfl) (by kernel_rfl) (by kernel_rfl) (fun _ _ _ h => h) (Or.inl ⟨by rfl, ?hy6⟩) (by assumption) ?_
    case hy6 => intro w hSw; (try dsimp only at hSw); go_simp; try with_reducible rfl
    simp only [Act.put, List.getElem_toArray, List.getElem_cons_zero, List.getElem_cons_succ, List.setIfInBounds_toArray, List.set_cons_zero, List.set_cons_succ]
    refine wpAnyN_take (i := 4) (v := ?v7) rfl (by kernel_rfl) (by kernel_rfl) (by kernel_rfl) (by kernel_rfl) (fun _ _ _ h => h) (Or.inl ⟨by rfl, ?hy7⟩) (by assumption) ?_
    case hy7 => intro w hSw; have h := BlkNext HK0.out hSw; have e0 := h.cell 0; have e1 := h.cell 1; have e2 := h.cell 2; have e3 := h.cell 3; have el := h.lt; simp at e0 e1 e2 e3; clear h; go_simp; try with_reducible rfl
    simp only [Act.put, List.getElem_toArray, List.getElem_cons_zero, List.getElem_cons_succ, List.setIfInBounds_toArray, List.set_cons_zero, List.set_cons_succ]
    refine wpAnyN_take (i := 5) (v := ?v8) rfl (by kernel_rfl) (by kernel_rfl) (by kernel_rfl) (by kernel_rfl) (fun _ _ _ h => h) (Or.inl ⟨by rfl, ?hy8⟩) (by assumption) ?_
    case hy8 => intro w hSw; have h := BlkNext HK0.out hSw; have e0 := h.cell 0; have e1 := h.cell 1; have e2 := h.cell 2; have e3 := h.cell 3; have el := h.lt; simp at e0 e1 e2 e3; clear h; go_simp; try with_reducible rfl
    simp only [Act.put, List.getElem_toArray, List.getElem_cons_zero, List.getElem_cons_succ, List.setIfInBounds_toArray, List.set_cons_zero, List.set_cons_succ]
    refine wpAnyN_one (i := 6) (by kernel_rfl) rfl (fun K hK => ?_)
    simp only [List.getElem_toArray, List.getElem_cons_zero, List.getElem_cons_succ]
    go_simp
    refine (canon33_any t A c w1 (ArgsNext HA.out HB1.out)).mono ?_
    rintro e w2 ⟨⟨A2, c2, rfl, ha2⟩, hb2⟩
    have hk2 : Below W.heap.size W w2 := bNext hk1 hb2
    refine hK _ _ (fun _ => hk2) ?_
    have HB2 := Lib.hid (bNext HB1.out hb2)
    have HA2 := Lib.hid (ha2.keep (w' := w2) (G := Old w2.heap.size) (fun _ _ => rfl) (fun _ h => h.2))
    clear hb2 hk1 ha2
    obtain ⟨z, hz⟩ : ∃ z, Hid (z = canonT t) := ⟨_, rfl⟩
    rw [← hz.out] at HA2 ⊢
    (try simp only [Act.put, List.setIfInBounds_toArray, List.set_cons_zero, List.set_cons_succ])
    refine wpAnyN_one (i := 7) (by kernel_rfl) rfl (fun K hK => ?_)
    simp only [List.getElem_toArray, List.getElem_cons_zero, List.getElem_cons_succ]
    go_simp
    refine (same32_any t z A c A2 c2 w2 (ArgsNext HA.out HB2.out) HA2.out).mono ?_
    rintro e w3 ⟨rfl, hb3⟩
    have hk3 : Below W.heap.size W w3 := bNext hk2 hb3
    refine hK _ _ (fun _ => hk3) ?_
    have HB3 := Lib.hid (bNext HB2.out hb3)
    clear hb3 hk2
    cases hsm : sameT t z
    · have HE := Lib.hid (callV_bad (t := t) (by rw [← hz.out, hsm, Bool.and_false]))
      clear hsm
      (try simp only [Act.put, List.setIfInBounds_toArray, List.set_cons_zero, List.set_cons_succ])
      refine wpAnyN_take (i := 8) (v := ?v9) rfl (by kernel_rfl) (by kernel_rfl) (by kernel_rfl) (by kernel_rfl) (fun _ _ _ h => h) (Or.inl ⟨by rfl, ?hy9⟩) (by assumption) ?_
      case hy9 => intro w hSw; (try dsimp only at hSw); go_simp; try with_reducible rfl
      simp only [Act.put, List.getElem_toArray, List.getElem_cons_zero, List.getElem_cons_succ, List.setIfInBounds_toArray, List.set_cons_zero, List.set_cons_succ]
      refine wpAnyN_take (i := 9) (v := ?v10) rfl (by kernel_rfl) (by kernel_rfl) (by kernel_rfl) (by kernel_rfl) (fun _ _ _ h => h) (Or.inl ⟨by rfl, ?hy10⟩) (by assumption) ?_
      case hy10 => intro w hSw; (try dsimp only at hSw); go_simp; try with_reducible rfl
      simp only [Act.put, List.getElem_toArray, List.getElem_cons_zero, List.getElem_cons_succ, List.setIfInBounds_toArray, List.set_cons_zero, List.set_cons_succ]
      refine wpAnyN_done (by kernel_rfl) ?_ _
      have HBE := HB3
      have HN1 := Lib.hid (BlkNext HN0.out hk3)
      have HR1 := Lib.hid (BlkNext HR0.out hk3)
      have s0 := HN1.out.cell 0
      have g0 := HN1.out.frozen 0
      have sl := HN1.out.lt
      simp at s0
      have r0 := HR1.out.cell 0
      have f0 := HR1.out.frozen 0
      have r1 := HR1.out.cell 1
      have f1 := HR1.out.frozen 1
      have r2 := HR1.out.cell 2
      have f2 := HR1.out.frozen 2
      have r3 := HR1.out.cell 3
      have f3 := HR1.out.frozen 3
      have rl := HR1.out.lt
      simp at r0 r1 r2 r3
      go_wp2_with fail
      refine bodyPost_ret (v := .tuple #[.slice none 0 0, Tm.v zeroT none 0, .int .i64 1]) (by simp only [results, Tryz.results10, Tm.kind, Tm.n, Tm.name, Tm.args]; go_simp; exact ⟨rfl, rfl, rfl, rfl⟩) rfl ⟨by rw [HE.out]; exact ⟨_, none, 0, rfl, ⟨none, 0, rfl, .nil _⟩, .nil _⟩, ?_⟩
      repeat first | exact HBE.out | refine Below.setCell ?_ hrw _ | refine Below.setCell ?_ hnw _
    · have HSM := Lib.hid (show (validT t && sameT t (canonT t)) = true by rw [← hz.out, hsm, HV.out]; rfl)
      clear hsm
      (try simp only [Act.put, List.setIfInBounds_toArray, List.set_cons_zero, List.set_cons_succ])
      refine wpAnyN_take (i := 8) (v := ?v11) rfl (by kernel_rfl) (by kernel_rfl) (by kernel_rfl) (by kernel_rfl) (fun _ _ _ h => h) (Or.inl ⟨by rfl, ?hy11⟩) (by assumption) ?_
      case hy11 => intro w hSw; (try dsimp only at hSw); go_simp; try with_reducible rfl
      simp only [Act.put, List.getElem_toArray, List.getElem_cons_zero, List.getElem_cons_succ, List.setIfInBounds_toArray, List.set_cons_zero, List.set_cons_succ]
      refine wpAnyN_take (i := 9) (v := ?v12) rfl (by kernel_rfl) (by kernel_rfl) (by kernel_rfl) (by kernel_rfl) (fun _ _ _ h => h) (Or.inl ⟨by rfl, ?hy12⟩) (by assumption) ?_
      case hy12 => intro w hSw; (try dsimp only at hSw); go_simp; try with_reducible rfl
      simp only [Act.put, List.getElem_toArray, List.getElem_cons_zero, List.getElem_cons_succ, List.setIfInBounds_toArray, List.set_cons_zero, List.set_cons_succ]
      refine wpAnyN_done (by kernel_rfl) ?_ _
      have HK3 := Lib.hid (BlkNext HK0.out hk3)
      have HBW := Lib.hid hk3
      have e0 := HK3.out.cell 0
      have e1 := HK3.out.cell 1
      have e2 := HK3.out.cell 2
      have e3 := HK3.out.cell 3
      have el := HK3.out.lt
      simp at e0 e1 e2 e3
      clear hk3
      by_cases k3 : t.kind = 3
      · go_wp2_with fail
        refine (has34_any t.name (t.args.length : Int) w3).mono ?_
        rintro e w4 ⟨rfl, hb4⟩
        have hk4 : Below W.heap.size W w4 := bNext HBW.out hb4
        have HB4 := Lib.hid (bNext HB3.out hb4)
        clear hb4 e0 e1 e2 e3 el
        cases hh : hasS t.name (t.args.length : Int)
        · have HE := Lib.hid (callV_none HSM.out (by rw [hh, Bool.and_false]))
          clear hh k3
          have HBE := HB4
          have HN1 := Lib.hid (BlkNext HN0.out hk4)
          have HR1 := Lib.hid (BlkNext HR0.out hk4)
          have s0 := HN1.out.cell 0
          have g0 := HN1.out.frozen 0
          have sl := HN1.out.lt
          simp at s0
          have r0 := HR1.out.cell 0
          have f0 := HR1.out.frozen 0
          have r1 := HR1.out.cell 1
          have f1 := HR1.out.frozen 1
          have r2 := HR1.out.cell 2
          have f2 := HR1.out.frozen 2
          have r3 := HR1.out.cell 3
          have f3 := HR1.out.frozen 3
          have rl := HR1.out.lt
          simp at r0 r1 r2 r3
          go_wp2_with fail
          refine bodyPost_ret (v := .tuple #[.slice none 0 0, Tm.v zeroT none 0, .int .i64 4]) (by simp only [results, Tryz.results10, Tm.n, Tm.name, Tm.args]; go_simp; exact ⟨rfl, rfl, rfl, rfl⟩) rfl ⟨by rw [HE.out]; exact ⟨_, none, 0, rfl, ⟨none, 0, rfl, .nil _⟩, .nil _⟩, ?_⟩
          repeat first | exact HBE.out | refine Below.setCell ?_ hrw _ | refine Below.setCell ?_ hnw _
        · obtain ⟨s, x, y, rfl, hcs, hs2⟩ := hasS_two HV.out (by rw [hh, k3]; rfl)
          clear hh
          have HK4 := Lib.hid (BlkNext HK0.out hk4)
          have HN4 := Lib.hid (BlkNext HN0.out hk4)
          have HR4 := Lib.hid (BlkNext HR0.out hk4)
          have HARG := Lib.hid (show ArgsAt (catW w4) (Nq (catW w4) pa) A [x, y] from HA.out.keep (fun b hb => by
            have hb' : b < w.heap.size := hb
            have := HB4.out.size
            rw [Below.heap_alloc _ _ _ (by simp; omega), Below.heap_alloc _ _ _ (by omega)]
            exact HB4.out.block b hb') (fun b hb => by
            have hb' : b < w.heap.size := hb
            have := HB4.out.size
            exact ⟨by simp; omega, by omega⟩))
          have HC := Lib.hid (catch20_35 #[.pointer (some ⟨q, 0, none⟩), .pointer (some ⟨pa, 0, none⟩)] pa w4 HN4.out.lt _ _ (callf35_any s x y A c q pa (catW w4) HV.out hrg hcs ((HK4.out.alloc _).alloc _) ((HN4.out.alloc _).alloc _) HARG.out hqp))
          have HCV := Lib.hid (callV_two HSM.out hs2)
          clear hk4 hcs hs2
          go_wp2_with fail
          refine HC.out.mono ?_
          rintro e w6 ⟨w5, hz3, hk3, hK3, hz2, he⟩
          have hr3 : Blk w6 r 24 #[.int .i64 0, .int .i64 0, .string { data := #[] }, .slice none 0 0] := (hK3.block r HR4.out.lt (Ne.symm hnr)).trans HR4.out
          have hb3 : Below w.heap.size w w6 := HB4.out.trans (hK3.low hnw HB4.out.size)
          have hkk : ∀ g, (catW w4).heap.size ≤ g → g < w5.heap.size → w6.heap[g]? = w5.heap[g]? := fun g h1 h2 => by
            simp at h1
            exact hk3 g h2 (by omega) (by omega)
          obtain ⟨l, Av, cv, b, A2, c2, code, rfl, hn3, ho3, ha3, hE⟩ : ∃ l Av cv b A2 c2 code, e = .returned (.tuple #[Tm.v b A2 c2, .int .i64 code]) ∧ Blk w6 pa 22 #[.slice Av l.length cv] ∧ ArgsAt w6 (Btw w4.heap.size w6.heap.size) Av l ∧ ArgsAt w6 (Btw w4.heap.size w6.heap.size) A2 b.args ∧ callV (.mk 3 0 s [x, y]) = (l, b, code) := by
            rcases he with ⟨rfl, l, v, hvt, hn2, Av, cv, rfl, ho⟩ | ⟨b, A2, c2, rfl, hvt, hn2, ha2⟩
            · refine ⟨l, Av, cv, _, _, _, _, rfl, (hk3 pa hn2.lt (by have := HN4.out.lt; omega) (by have := HN4.out.lt; omega)).trans hn2, ho.keep (fun g hg => hkk g hg.1 hg.2) (fun g hg => ?_), .nil _, by rw [HCV.out, hvt]⟩
              have h1 := hg.1
              have h3 := hg.2
              simp at h1
              exact ⟨by omega, by omega⟩
            · refine ⟨[], none, 0, b, A2, c2, 8, rfl, (hk3 pa hn2.lt (by have := HN4.out.lt; omega) (by have := HN4.out.lt; omega)).trans hn2, .nil _, ha2.keep (fun g hg => hkk g hg.1 hg.2) (fun g hg => ?_), by rw [HCV.out, hvt]⟩
              have h1 := hg.1
              have h3 := hg.2
              simp at h1
              exact ⟨by omega, by omega⟩
          clear hkk
          have HR3 := Lib.hid hr3
          have HN3 := Lib.hid hn3
          have HB3 := Lib.hid hb3
          have HA3 := Lib.hid ha3
          have HE := Lib.hid hE
          have hz1 := HB4.out.size
          have hl1 := HR4.out.lt
          have hl2 := HN4.out.lt
          have HO3 := Lib.hid ho3
          clear he hr3 hb3 hn3 ha3 ho3 hE hk3 hK3 hz2 hz3 HC
          have r0 := HR3.out.cell 0
          have f0 := HR3.out.frozen 0
          have r1 := HR3.out.cell 1
          have f1 := HR3.out.frozen 1
          have r2 := HR3.out.cell 2
          have f2 := HR3.out.frozen 2
          have r3 := HR3.out.cell 3
          have f3 := HR3.out.frozen 3
          have rl := HR3.out.lt
          simp at r0 r1 r2 r3
          go_upto_region 6 with fail
          obtain ⟨w7, hw7⟩ : ∃ X, Hid (X = (((w6.setCell ⟨r, 0, none⟩ (.int .i64 b.kind)).setCell ⟨r, 1, none⟩ (.int .i64 b.n)).setCell ⟨r, 2, none⟩ (.string b.name)).setCell ⟨r, 3, none⟩ (.slice A2 b.args.length c2)) := ⟨_, rfl⟩
          rw [← hw7.out]
          have hr4 : Blk w7 r 24 #[.int .i64 b.kind, .int .i64 b.n, .string b.name, .slice A2 b.args.length c2] := by
            rw [hw7.out]
            have h := (((HR3.out.set_ 0 (.int .i64 b.kind)).set_ 1 (.int .i64 b.n)).set_ 2 (.string b.name)).set_ 3 (.slice A2 b.args.length c2)
            simpa using h
          have hn4 : Blk w7 pa 22 #[.slice Av l.length cv] := by
            rw [hw7.out]
            exact (((HN3.out.far (p := ⟨r, 0, none⟩) hnr _).far (p := ⟨r, 1, none⟩) hnr _).far (p := ⟨r, 2, none⟩) hnr _).far (p := ⟨r, 3, none⟩) hnr _
          have hb4 : Below w.heap.size w w7 := by
            rw [hw7.out]
            repeat refine Below.setCell ?_ hrw _
            exact HB3.out
          have hz4 : w7.heap.size = w6.heap.size := by rw [hw7.out]; simp
          have hk4 : ∀ g, g ≠ r → w7.heap[g]? = w6.heap[g]? := fun g hg => by
            rw [hw7.out]
            repeat rw [heap_setCell_other _ _ _ _ (by simpa using hg)]
          have HB4 := Lib.hid hb4
          have HA4 := Lib.hid (show ArgsAt w7 (Btw w4.heap.size w7.heap.size) A2 b.args from HA3.out.keep (fun g hg => hk4 g (by have := hg.1; omega)) (fun g hg => ⟨hg.1, by have := hg.2; omega⟩))
          have HO4 := Lib.hid (HO3.out.keep (w' := w7) (G := Btw w4.heap.size w7.heap.size) (fun g hg => hk4 g (by have := hg.1; omega)) (fun g hg => ⟨hg.1, by have := hg.2; omega⟩))
          clear hw7 hb4 hz4 hk4 r0 r1 r2 r3 rl f0 f1 f2 f3
          obtain ⟨D, hD⟩ : ∃ X, Hid (X = w7.drew) := ⟨_, rfl⟩
          have hd : Below w7.heap.size w7 D := by rw [hD.out]; exact bDrewN (Below.refl _ _) 1
          have hS0 : (fun w' => Blk w' pa 22 #[.slice Av l.length cv] ∧ Blk w' r 24 #[.int .i64 b.kind, .int .i64 b.n, .string b.name, .slice A2 b.args.length c2]) D := ⟨BlkNext hn4 hd, BlkNext hr4 hd⟩
          refine wp_region_N (fun w' => Blk w' pa 22 #[.slice Av l.length cv] ∧ Blk w' r 24 #[.int .i64 b.kind, .int .i64 b.n, .string b.name, .slice A2 b.args.length c2]) (fun _ => true) (by kernel_rfl) ?_
          rw [← hD.out]
          have HD0 := Lib.hid hd
          have hD5 := Lib.hid hD.out
          clear hD hd
          refine wpAnyN_take (i := 0) (v := ?v13) rfl (by kernel_rfl) (by kernel_rfl) (by kernel_rfl) (by kernel_rfl) (fun _ _ _ h => h) (Or.inl ⟨by rfl, ?hy13⟩) (by assumption) ?_
          case hy13 => intro w hSw; obtain ⟨b1, b2⟩ := hSw; have n0 := b1.cell 0; have p0 := b2.cell 0; have p1 := b2.cell 1; have p2 := b2.cell 2; have p3 := b2.cell 3; simp at n0 p0 p1 p2 p3; go_simp; try with_reducible rfl
          simp only [Act.put, List.getElem_toArray, List.getElem_cons_zero, List.setIfInBounds_toArray, List.set_cons_zero, List.set_cons_succ]
          refine wpAnyN_take (i := 1) (v := ?v14) rfl (by kernel_rfl) (by kernel_rfl) (by kernel_rfl) (by kernel_rfl) (fun _ _ _ h => h) (Or.inl ⟨by rfl, ?hy14⟩) (by assumption) ?_
          case hy14 => intro w hSw; obtain ⟨b1, b2⟩ := hSw; have n0 := b1.cell 0; have p0 := b2.cell 0; have p1 := b2.cell 1; have p2 := b2.cell 2; have p3 := b2.cell 3; simp at n0 p0 p1 p2 p3; go_simp; try with_reducible rfl
          simp only [Act.put, List.getElem_toArray, List.getElem_cons_zero, List.getElem_cons_succ, List.setIfInBounds_toArray, List.set_cons_zero, List.set_cons_succ]
          refine wpAnyN_take (i := 2) (v := ?v15) rfl (by kernel_rfl) (by kernel_rfl) (by kernel_rfl) (by kernel_rfl) (fun _ _ _ h => h) (Or.inl ⟨by rfl, ?hy15⟩) (by assumption) ?_
          case hy15 => intro w hSw; (try dsimp only at hSw); go_simp; try with_reducible rfl
          simp only [Act.put, List.getElem_toArray, List.getElem_cons_zero, List.getElem_cons_succ, List.setIfInBounds_toArray, List.set_cons_zero, List.set_cons_succ]
          have HS0 := Lib.hid hS0
          have s0 := hS0.1.cell 0
          have g0 := hS0.1.frozen 0
          have sl := hS0.1.lt
          simp at s0
          refine wpAnyN_one (i := 3) (by kernel_rfl) rfl (fun K hK => ?_)
          simp only [List.getElem_toArray, List.getElem_cons_zero, List.getElem_cons_succ]
          go_simp
          have hS1 : (fun w' => Blk w' pa 22 #[.slice Av l.length cv] ∧ Blk w' r 24 #[.int .i64 b.kind, .int .i64 b.n, .string b.name, .slice A2 b.args.length c2]) (D.setCell ⟨pa, 0, none⟩ (.slice Av l.length cv)) := ⟨by simpa using HS0.out.1.set_ 0 (.slice Av l.length cv), HS0.out.2.far (p := ⟨pa, 0, none⟩) (Ne.symm hnr) _⟩
          refine hK _ _ (fun _ => hS1) ?_
          clear s0 g0 sl hS0
          obtain ⟨E, hE5⟩ : ∃ X, Hid (X = D.setCell ⟨pa, 0, none⟩ (.slice Av l.length cv)) := ⟨_, rfl⟩
          rw [← hE5.out] at hS1 ⊢
          have HE1 := Lib.hid hS1
          (try simp only [Act.put, List.setIfInBounds_toArray, List.set_cons_zero, List.set_cons_succ])
          have r0 := hS1.2.cell 0
          have r1 := hS1.2.cell 1
          have r2 := hS1.2.cell 2
          have r3 := hS1.2.cell 3
          have f0 := hS1.2.frozen 0
          have f1 := hS1.2.frozen 1
          have f2 := hS1.2.frozen 2
          have f3 := hS1.2.frozen 3
          have rl := hS1.2.lt
          simp at r0 r1 r2 r3
          refine wpAnyN_one (i := 4) (by kernel_rfl) rfl (fun K hK => ?_)
          simp only [List.getElem_toArray, List.getElem_cons_zero, List.getElem_cons_succ]
          go_simp
          obtain ⟨F, hF5⟩ : ∃ X, Hid (X = (((E.setCell ⟨r, 0, none⟩ (.int .i64 b.kind)).setCell ⟨r, 1, none⟩ (.int .i64 b.n)).setCell ⟨r, 2, none⟩ (.string b.name)).setCell ⟨r, 3, none⟩ (.slice A2 b.args.length c2)) := ⟨_, rfl⟩
          rw [← hF5.out]
          have hS2 : (fun w' => Blk w' pa 22 #[.slice Av l.length cv] ∧ Blk w' r 24 #[.int .i64 b.kind, .int .i64 b.n, .string b.name, .slice A2 b.args.length c2]) F := by
            rw [hF5.out]
            refine ⟨(((HE1.out.1.far (p := ⟨r, 0, none⟩) hnr _).far (p := ⟨r, 1, none⟩) hnr _).far (p := ⟨r, 2, none⟩) hnr _).far (p := ⟨r, 3, none⟩) hnr _, ?_⟩
            have h := (((HE1.out.2.set_ 0 (.int .i64 b.kind)).set_ 1 (.int .i64 b.n)).set_ 2 (.string b.name)).set_ 3 (.slice A2 b.args.length c2)
            simpa using h
          refine hK _ _ (fun _ => hS2) ?_
          have hzF : F.heap.size = w7.heap.size := by rw [hF5.out, hE5.out]; have := hD5.out; simp [this]
          have hkF : ∀ g, g ≠ r → g ≠ pa → F.heap[g]? = w7.heap[g]? := fun g h1 h2 => by
            rw [hF5.out]
            repeat rw [heap_setCell_other _ _ _ _ (by simpa using h1)]
            rw [hE5.out, heap_setCell_other _ _ _ _ (by simpa using h2), hD5.out]
            rfl
          have hbF : Below w.heap.size w F := by
            rw [hF5.out, hE5.out]
            repeat refine Below.setCell ?_ hrw _
            refine Below.setCell ?_ hnw _
            exact HB4.out.trans (HD0.out.mono HB4.out.size)
          have HAF := Lib.hid (HA4.out.keep (w' := F) (G := Btw w4.heap.size F.heap.size) (fun g hg => hkF g (by have := hg.1; omega) (by have := hg.1; omega)) (fun g hg => ⟨hg.1, by have := hg.2; omega⟩))
          have HOF := Lib.hid (HO4.out.keep (w' := F) (G := Btw w4.heap.size F.heap.size) (fun g hg => hkF g (by have := hg.1; omega) (by have := hg.1; omega)) (fun g hg => ⟨hg.1, by have := hg.2; omega⟩))
          have HBF := Lib.hid hbF
          have HR5 := Lib.hid hS2.2
          have HN5 := Lib.hid hS2.1
          clear hF5 hE5 hD5 hzF hkF hbF r0 r1 r2 r3 f0 f1 f2 f3 rl hS1
          (try simp only [Act.put, List.setIfInBounds_toArray, List.set_cons_zero, List.set_cons_succ])
          refine wpAnyN_take (i := 5) (v := ?v16) rfl (by kernel_rfl) (by kernel_rfl) (by kernel_rfl) (by kernel_rfl) (fun _ _ _ h => h) (Or.inl ⟨by rfl, ?hy16⟩) (by assumption) ?_
          case hy16 => intro w hSw; (try dsimp only at hSw); go_simp; try with_reducible rfl
          simp only [Act.put, List.getElem_toArray, List.getElem_cons_zero, List.getElem_cons_succ, List.setIfInBounds_toArray, List.set_cons_zero, List.set_cons_succ]
          refine wpAnyN_done (by kernel_rfl) ?_ _
          clear hS2
          have r0 := HR5.out.cell 0
          have f0 := HR5.out.frozen 0
          have r1 := HR5.out.cell 1
          have f1 := HR5.out.frozen 1
          have r2 := HR5.out.cell 2
          have f2 := HR5.out.frozen 2
          have r3 := HR5.out.cell 3
          have f3 := HR5.out.frozen 3
          have rl := HR5.out.lt
          simp at r0 r1 r2 r3
          have s0 := HN5.out.cell 0
          simp at s0
          go_wp2_with fail
          refine bodyPost_ret (v := .tuple #[.slice Av l.length cv, Tm.v b A2 c2, .int .i64 code]) (by simp only [results, Tryz.results10]; go_simp) rfl ⟨by rw [HE.out]; exact ⟨_, A2, c2, rfl, ⟨Av, cv, rfl, HOF.out.keep (fun _ _ => rfl) (fun g hg => ⟨by have := hg.1; omega, hg.2⟩)⟩, HAF.out.keep (fun _ _ => rfl) (fun g hg => ⟨by have := hg.1; omega, hg.2⟩)⟩, HBF.out⟩
      · have HE := Lib.hid (callV_none HSM.out (by simp [k3]))
        have k3' : (t.kind != 3) = true := by simpa using k3
        have HBE := HB3
        have hk3 := HBW.out
        have HN1 := Lib.hid (BlkNext HN0.out hk3)
        have HR1 := Lib.hid (BlkNext HR0.out hk3)
        have s0 := HN1.out.cell 0
        have g0 := HN1.out.frozen 0
        have sl := HN1.out.lt
        simp at s0
        have r0 := HR1.out.cell 0
        have f0 := HR1.out.frozen 0
        have r1 := HR1.out.cell 1
        have f1 := HR1.out.frozen 1
        have r2 := HR1.out.cell 2
        have f2 := HR1.out.frozen 2
        have r3 := HR1.out.cell 3
        have f3 := HR1.out.frozen 3
        have rl := HR1.out.lt
        simp at r0 r1 r2 r3
        go_wp2_with fail
        refine bodyPost_ret (v := .tuple #[.slice none 0 0, Tm.v zeroT none 0, .int .i64 4]) (by simp only [results, Tryz.results10, Tm.kind, Tm.n, Tm.name, Tm.args]; go_simp; exact ⟨rfl, rfl, rfl, rfl⟩) rfl ⟨by rw [HE.out]; exact ⟨_, none, 0, rfl, ⟨none, 0, rfl, .nil _⟩, .nil _⟩, ?_⟩
        repeat first | exact HBE.out | refine Below.setCell ?_ hrw _ | refine Below.setCell ?_ hnw _
end Go.Proofs.YtcagaaacfcpoeaaGreat
