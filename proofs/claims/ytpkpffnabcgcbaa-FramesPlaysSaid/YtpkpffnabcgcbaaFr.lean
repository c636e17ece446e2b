/-
  The walk of Allocate.
-/
import Derived.Test.YtpkpffnabcgcbaaFl
import Derived.Test.YtpkpffnabcgcbaaRegT
namespace Go.Proofs.Ytpkpffnabcgcbaa
open Go.RowKit

theorem info54 : (Try.prog.info? 54).map (fun i => (i.zero, i.size, i.bytes)) = some (some (.agg #[.int .i64 0, .int .i64 0, .int .i64 0, .slice none 0 0]), 4, 48) := by kernel_rfl
def allocV (s : St) (n id pc : Int) : Except Int St := if n < 0 ∨ 4096 < n ∨ pc < 0 then .error 1 else if 1048576 ≤ max s.e (protV s) then .error 13 else
  .ok ⟨s.envs.take (keepN s) ++ [⟨s.e, id, pc, List.replicate n.toNat ⟨1, 0⟩⟩], max s.e (protV s) + 1, s.chs⟩
theorem made_cells (n : Nat) : (madeCells #[.int .i64 0, .int .i64 0] (n * 2)).toList = cCs (List.replicate n ⟨0, 0⟩) := by
  refine List.ext_getElem? fun i => ?_
  rcases Nat.lt_or_ge i (n * 2) with hi | hi
  · have hk : i / 2 < n := by omega
    obtain ⟨u0, u1⟩ := cCs_at (l := List.replicate n (⟨0, 0⟩ : Cl)) (i := i / 2) (x := ⟨0, 0⟩) (by rw [List.getElem?_replicate, if_pos hk])
    have e : (madeCells #[.int .i64 0, .int .i64 0] (n * 2)).toList[i]? = some (.int .i64 0) := by
      unfold madeCells
      rw [Array.getElem?_toList, Array.getElem?_map, Array.getElem?_range, if_pos hi]
      rcases Nat.mod_two_eq_zero_or_one i with h | h <;> simp [h]
    rw [e]
    rcases Nat.mod_two_eq_zero_or_one i with h | h
    · rw [show i / 2 * 2 = i by omega] at u0
      exact u0.symm
    · rw [show i / 2 * 2 + 1 = i by omega] at u1
      exact u1.symm
  · rw [List.getElem?_eq_none (by simpa [size_madeCells] using hi), List.getElem?_eq_none (by rw [cCs_len, List.length_replicate]; exact hi)]
/-- k cells were set -/
def someC (n k : Nat) : List Cl := List.replicate k ⟨1, 0⟩ ++ List.replicate (n - k) ⟨0, 0⟩
theorem someC_set {n k : Nat} (h : k < n) : ((cCs (someC n k)).set (k * 2) (.int .i64 1)).set (k * 2 + 1) (.int .i64 0) = cCs (someC n (k + 1)) := by
  unfold someC
  obtain ⟨m, hm⟩ : ∃ m, n - k = m + 1 := ⟨n - k - 1, by omega⟩
  rw [hm, show n - (k + 1) = m by omega, List.replicate_succ, List.replicate_succ', List.append_assoc, cCs_app, cCs_app]
  have hl : (cCs (List.replicate k (⟨1, 0⟩ : Cl))).length = k * 2 := by rw [cCs_len, List.length_replicate]
  rw [List.set_append_right _ _ (by omega), List.set_append_right _ _ (by omega), hl, Nat.sub_self, show k * 2 + 1 - k * 2 = 1 by omega]
  rfl
/-- the rows but that of the environments are of other types than it and the box -/
theorem Stk.typedE {w : World} {B p : Nat} {s : St} {ve vc : Value} {ys : List Value} {cs : List (Value × Value)} (h : Stk w B p s ve vc ys cs) {v : Value} (hv : v ∈ vc :: ys ++ cs.map (·.1) ++ cs.map (·.2)) : ∃ t size n xs, w.ownsRow B t size v n xs ∧ t ≠ 25 ∧ t ≠ 54 := by
  rcases List.mem_append.1 hv with hv | hv
  · rcases List.mem_append.1 hv with hv | hv
    · rcases List.mem_cons.1 hv with rfl | hv
      · exact ⟨_, _, _, _, h.chs, by decide, by decide⟩
      · obtain ⟨i, hi⟩ := List.mem_iff_getElem?.1 hv
        have hl := (List.getElem?_eq_some_iff.1 hi).1
        exact ⟨_, _, _, _, h.yrow i _ v (List.getElem?_eq_getElem (by rw [← h.ylen]; exact hl)) hi, by decide, by decide⟩
    · obtain ⟨u, hu, rfl⟩ := List.mem_map.1 hv
      obtain ⟨i, hi⟩ := List.mem_iff_getElem?.1 hu
      have hl := (List.getElem?_eq_some_iff.1 hi).1
      exact ⟨_, _, _, _, (h.crow i _ u (List.getElem?_eq_getElem (by rw [← h.clen]; exact hl)) hi).1, by decide, by decide⟩
  · obtain ⟨u, hu, rfl⟩ := List.mem_map.1 hv
    obtain ⟨i, hi⟩ := List.mem_iff_getElem?.1 hu
    have hl := (List.getElem?_eq_some_iff.1 hi).1
    exact ⟨_, _, _, _, (h.crow i _ u (List.getElem?_eq_getElem (by rw [← h.clen]; exact hl)) hi).2, by decide, by decide⟩
/-- an environment more on stacks that were cut: WF differs from X only in the box, in the row of environments and in new blocks -/
theorem Stk.grown {X WF : World} {B p b g c e8 m : Nat} {s : St} {A : Option Addr} {vc : Value} {ys : List Value} {cs : List (Value × Value)} {vy : Value} {x : En} {e : Int} (h : Stk X B p s (.slice A s.envs.length c) vc ys cs) (hm : m = keepN s)
    (hlt : ∀ k ∈ foot p (.slice A s.envs.length c) vc ys cs, k < b) (hz : ∀ k, k < X.heap.size → k ≠ p → some k ≠ Value.ownBlock (.slice A s.envs.length c) → WF.heap[k]? = X.heap[k]?)
    (hb : Blk WF p 25 #[.slice (some ⟨g, 0, none⟩) (m + 1) e8, .int .i64 e, vc]) (hc : WF.ownsRow B 54 4 (.slice (some ⟨g, 0, none⟩) (m + 1) e8) (m + 1) (eCs (s.envs.take m) (ys.take m) ++ eCs [x] [vy]))
    (ha : WF.ownsRow B 38 2 vy x.y.length (cCs x.y)) (hna : ∀ k, vy.ownBlock = some k → b ≤ k) (hg : A.map (·.block) = some g ∨ b ≤ g) :
    Stk WF B p ⟨s.envs.take m ++ [x], e, s.chs⟩ (.slice (some ⟨g, 0, none⟩) (m + 1) e8) vc (ys.take m ++ [vy]) cs ∧
      ∀ k ∈ foot p (.slice (some ⟨g, 0, none⟩) (m + 1) e8) vc (ys.take m ++ [vy]) cs, k ∈ foot p (.slice A s.envs.length c) vc ys cs ∨ b ≤ k := by
  subst hm
  obtain ⟨A', c', hvc, -⟩ := own_form h.chs
  have hu := (Upd.refl p X).set 0 (.slice A (keepN s) c)
  have hbx := h.box.set_ 0 (.slice A (keepN s) c)
  have hV := h.dropped hu (by simpa using hbx)
  have hml : (dropV s).envs.length = keepN s := by
    have := keepN_le s
    show (s.envs.take (keepN s)).length = keepN s
    rw [List.length_take]
    omega
  refine ⟨hV.allocated (w' := WF) (vy := vy) (ve' := .slice (some ⟨g, 0, none⟩) (keepN s + 1) e8) (x := x) (e := e) (b := b) (fun k hk => hlt k (foot_drop _ hvc k hk)) (fun v hv k hk => ?_) hb (by rw [hml]; exact hc) ha hna, fun k hk => ?_⟩
  · obtain ⟨t, size, n, xs, h1, t1, t2⟩ := hV.typedE hv
    have hkp : k ≠ p := own_ne h1 hV.box t1 hk
    refine (hz k ?_ hkp ?_).trans (hu.block k hkp).symm
    · have h2 := (h1.lt k hk).2
      simpa using h2
    · have h2 := own_apart h1 hV.envs t2 hk
      intro e
      refine h2 (e.trans ?_)
      cases A <;> rfl
  · rcases List.mem_cons.1 hk with rfl | hk
    · exact .inl List.mem_cons_self
    · obtain ⟨v, hv, e⟩ := List.mem_filterMap.1 hk
      simp only [List.cons_append, List.mem_cons, List.mem_append, List.not_mem_nil, or_false] at hv
      rcases hv with rfl | rfl | (((hv | rfl) | hv) | hv)
      · have e : g = k := by simpa [Value.ownBlock] using e
        subst e
        rcases hg with h8 | h8
        · refine .inl (foot_mem (v := .slice A s.envs.length c) (by simp) ?_)
          cases A
          · cases h8
          · simpa [Value.ownBlock] using h8
        · exact .inr h8
      · exact .inl (foot_mem (by simp) e)
      · exact .inl (foot_mem (by simp [List.mem_of_mem_take hv]) e)
      · exact .inr (hna k e)
      · exact .inl (foot_mem (List.mem_append_left _ (List.mem_append_right _ hv)) e)
      · exact .inl (foot_mem (List.mem_append_right _ hv) e)
set_option maxHeartbeats 4000000 in
theorem alloc_any {B p : Nat} {s : St} {ve vc : Value} {ys : List Value} {cs : List (Value × Value)} (n id pc : Int) (w : World) (h : Stk w B p s ve vc ys cs) (hn : s.envs.length ≤ 1000000000000) (hnc : s.chs.length ≤ 1000000000000) (h0 : 0 ≤ max s.e (protV s)) :
    Calls Try.prog 27 #[.pointer (some ⟨p, 0, none⟩), .int .i64 n, .int .i64 id, .int .i64 pc] w (RetP B p (foot p ve vc ys cs) (.int .i64 (errOf (allocV s n id pc))) (stOf s (allocV s n id pc)) w) := by
  obtain ⟨i1, hi1, hz1, hy1, hb1'⟩ := info_parts info54
  obtain ⟨i0, hi0, hz0, hy0, hb0⟩ := info_parts info38
  have hBw : B ≤ w.heap.size := Nat.le_of_lt (Nat.lt_of_le_of_lt h.low h.box.lt)
  obtain ⟨A, c, rfl, hcap⟩ := own_form h.envs
  have HFL := Lib.hid h.foot_lt
  have HS := Lib.hid h
  have HC := Lib.hid hcap
  clear h hcap
  by_cases hbad : n < 0 ∨ 4096 < n ∨ pc < 0
  · have hv : allocV s n id pc = .error 1 := by unfold allocV; rw [if_pos hbad]
    rw [hv]
    rcases hbad with hb | hb | hb
    all_goals
      by_cases hb2 : n < 0
      all_goals by_cases hb3 : 4096 < n
      all_goals first | (exfalso; omega) | skip
      all_goals
        go_enter Try.func27, Try.ntmps27
        go_wp2_with fail
        go_ret
        exact ⟨rfl, ⟨_, _, _, _, HS.out, fun g hg => .inl hg⟩, Kept.refl _ _⟩
  obtain ⟨N, rfl⟩ : ∃ N : Nat, n = (N : Int) := ⟨n.toNat, by omega⟩
  have hN : N ≤ 4096 := by omega
  have hpc : 0 ≤ pc := by omega
  have hb1 : ¬ (4096 : Int) < (N : Int) := by omega
  have hb2 : ¬ pc < 0 := by omega
  go_enter Try.func27, Try.ntmps27
  go_upto_region 3 with fail
  obtain ⟨X0, HX⟩ : ∃ X, Hid (X = w.drew) := ⟨_, rfl⟩
  have hd0 : Below w.heap.size w X0 := by rw [HX.out]; exact bDrew w
  have H0 := Lib.hid (HS.out.next hd0)
  have HB0 := Lib.hid hd0
  obtain ⟨c0, c1, c2⟩ := H0.out.cells
  have hl := H0.out.box.lt
  refine wp_region_N (fun w' => w' = X0) (fun _ => true) (by kernel_rfl) ?_
  rw [← HX.out]
  clear HX hd0
  have hS0 : (fun w' => w' = X0) X0 := rfl
  refine wpAnyN_take (i := 0) (v := ?v1) rfl (by kernel_rfl) (by kernel_rfl) (by kernel_rfl) (by kernel_rfl) (fun _ _ _ h => h) (Or.inl ⟨by rfl, ?hy1⟩) (by assumption) ?_
  case hy1 => intro w hSw; obtain rfl := hSw; go_simp; try with_reducible rfl
  simp only [Act.put, List.getElem_toArray, List.getElem_cons_zero, List.setIfInBounds_toArray, List.set_cons_zero, List.set_cons_succ]
  refine wpAnyN_take (i := 1) (v := ?v2) rfl (by kernel_rfl) (by kernel_rfl) (by kernel_rfl) (by kernel_rfl) (fun _ _ _ h => h) (Or.inl ⟨by rfl, ?hy2⟩) (by assumption) ?_
  case hy2 => intro w hSw; obtain rfl := hSw; go_simp; try with_reducible rfl
  simp only [Act.put, List.getElem_toArray, List.getElem_cons_zero, List.getElem_cons_succ, List.setIfInBounds_toArray, List.set_cons_zero, List.set_cons_succ]
  refine wpAnyN_take (i := 2) (v := ?v3) rfl (by kernel_rfl) (by kernel_rfl) (by kernel_rfl) (by kernel_rfl) (fun _ _ _ h => h) (Or.inl ⟨by rfl, ?hy3⟩) (by assumption) ?_
  case hy3 => intro w hSw; obtain rfl := hSw; go_simp; try with_reducible rfl
  simp only [Act.put, List.getElem_toArray, List.getElem_cons_zero, List.getElem_cons_succ, List.setIfInBounds_toArray, List.set_cons_zero, List.set_cons_succ]
  refine wpAnyN_take (i := 3) (v := ?v4) rfl (by kernel_rfl) (by kernel_rfl) (by kernel_rfl) (by kernel_rfl) (fun _ _ _ h => h) (Or.inl ⟨by rfl, ?hy4⟩) (by assumption) ?_
  case hy4 => intro w hSw; obtain rfl := hSw; go_simp; try with_reducible rfl
  simp only [Act.put, List.getElem_toArray, List.getElem_cons_zero, List.getElem_cons_succ, List.setIfInBounds_toArray, List.set_cons_zero, List.set_cons_succ]
  refine wpAnyN_take (i := 4) (v := ?v5) rfl (by kernel_rfl) (by kernel_rfl) (by kernel_rfl) (by kernel_rfl) (fun _ _ _ h => h) (Or.inl ⟨by rfl, ?hy5⟩) (by assumption) ?_
  case hy5 => intro w hSw; obtain rfl := hSw; go_simp; try with_reducible rfl
  simp only [Act.put, List.getElem_toArray, List.getElem_cons_zero, List.getElem_cons_succ, List.setIfInBounds_toArray, List.set_cons_zero, List.set_cons_succ]
  refine wpAnyN_one (i := 5) (by kernel_rfl) rfl (fun K hK => ?_)
  simp only [List.getElem_toArray, List.getElem_cons_zero, List.getElem_cons_succ]
  go_simp
  refine (protected_any _ H0.out hnc).mono ?_
  rintro e w9 ⟨rfl, rfl⟩
  refine hK _ _ (fun _ => hS0) ?_
  (try simp only [Act.put, List.setIfInBounds_toArray, List.set_cons_zero, List.set_cons_succ])
  refine wpAnyN_take (i := 6) (v := ?v6) rfl (by kernel_rfl) (by kernel_rfl) (by kernel_rfl) (by kernel_rfl) (fun _ _ _ h => h) (Or.inl ⟨by rfl, ?hy6⟩) (by assumption) ?_
  case hy6 => intro w hSw; obtain rfl := hSw; go_simp; try with_reducible rfl
  simp only [Act.put, List.getElem_toArray, List.getElem_cons_zero, List.getElem_cons_succ, List.setIfInBounds_toArray, List.set_cons_zero, List.set_cons_succ]
  refine wpAnyN_take (i := 7) (v := ?v7) rfl (by kernel_rfl) (by kernel_rfl) (by kernel_rfl) (by kernel_rfl) (fun _ _ _ h => h) (Or.inl ⟨by rfl, ?hy7⟩) (by assumption) ?_
  case hy7 => intro w hSw; obtain rfl := hSw; go_simp; try with_reducible rfl
  simp only [Act.put, List.getElem_toArray, List.getElem_cons_zero, List.getElem_cons_succ, List.setIfInBounds_toArray, List.set_cons_zero, List.set_cons_succ]
  refine wpAnyN_done (by kernel_rfl) ?_ _
  clear hS0
  rw [show (if s.e < protV s then protV s else s.e) = max s.e (protV s) by split <;> omega]
  obtain ⟨mx, hmx⟩ : ∃ mx, Hid (mx = max s.e (protV s)) := ⟨_, rfl⟩
  have hmx0 : 0 ≤ mx := by rw [hmx.out]; exact h0
  rw [← hmx.out]
  by_cases hfull : 1048576 ≤ mx
  · have hv : allocV s N id pc = .error 13 := by unfold allocV; rw [if_neg (by omega), if_pos (by rw [← hmx.out]; exact hfull)]
    rw [hv]
    go_wp2_with fail
    go_ret
    exact ⟨rfl, ⟨_, _, _, _, H0.out, fun g hg => .inl hg⟩, Kept.below HB0.out⟩
  have hv : allocV s N id pc = .ok ⟨s.envs.take (keepN s) ++ [⟨s.e, id, pc, List.replicate N ⟨1, 0⟩⟩], mx + 1, s.chs⟩ := by
    unfold allocV
    rw [if_neg (by omega), if_neg (by rw [← hmx.out]; exact hfull), ← hmx.out, Int.toNat_natCast]
  have HV := Lib.hid hv
  clear hv
  obtain ⟨m, hm⟩ : ∃ m, Hid (m = keepN s) := ⟨_, rfl⟩
  have hmI : Hid ((m : Int) = min (max mx 0) s.envs.length) := by
    refine Lib.hid ?_
    rw [hm.out, hmx.out]
    unfold keepN
    omega
  go_wp2_with (refine wpList_make_full _ rfl (.tmp 35) (.tmp 35) 26 rfl w.heap.size 38 i0 _ 2 Try.underlying26 hi0 hz0 hy0 .i64 .i64 _ _ N rfl rfl rfl rfl (by rw [hb0]; omega) (by unfold maxLen; omega) (by have := HB0.out.size; omega) ?_)
  intro w1 hown hgr
  rw [made_cells] at hown
  have hb1 : Below w.heap.size w w1 := HB0.out.grown hgr HB0.out.size (fun k hk => by cases hk)
  obtain ⟨q, hq⟩ : ∃ q, q = w9.heap.size := ⟨_, rfl⟩
  rw [← hq] at hown ⊢
  clear hgr hq
  have HO1 := Lib.hid hown
  have HB1 := Lib.hid hb1
  clear hown hb1 c0 c1 c2 hl
  go_wp2_with fail
  go_loopw [39] (fun i wr => ∃ k : Nat, k ≤ N ∧ i = .int .i64 (k : Int) ∧ Hid (Below w.heap.size w wr ∧ wr.ownsRow w.heap.size 38 2 (.slice (some ⟨q, 0, none⟩) N N) N (cCs (someC N k)))) (fun i _ => N - (intOf i).toNat)
  case atStart => exact ⟨0, by omega, rfl, Lib.hid ⟨HB1.out, HO1.out⟩⟩
  case round =>
    obtain ⟨k, hk, rfl, HI⟩ := hrel
    by_cases hlt : k < N
    · have f0 := HI.out.2.frozenAt (k * 2)
      have hsk : (someC N k)[k]? = some ⟨0, 0⟩ := by unfold someC; rw [List.getElem?_append_right (by simp), List.length_replicate, Nat.sub_self, List.getElem?_replicate, if_pos (by omega)]
      have z0 := own_cell HI.out.2 (cCs_at hsk).1
      have gl := (HI.out.2.lt q rfl)
      have gl1 := gl.1
      have gl2 := gl.2
      have s1 := (HI.out.2.stored (k * 2) (.int .i64 1)).1
      have f1 := s1.frozenAt (k * 2 + 1)
      have z1 := own_cell (j := k * 2 + 1) (u := .int .i64 0) s1 (by rw [List.getElem?_set_ne (by omega)]; exact (cCs_at hsk).2)
      have s2 := (s1.stored (k * 2 + 1) (.int .i64 0)).1
      rw [someC_set hlt] at s2
      have HX2 := Lib.hid s2
      have HBX := Lib.hid ((HI.out.1.setCell (p := ⟨q, k * 2, none⟩) gl1 (.int .i64 1)).setCell (p := ⟨q, k * 2 + 1, none⟩) gl1 (.int .i64 0))
      clear s1 s2 gl
      go_wp2_with fail
      exact ⟨⟨k + 1, by omega, by go_num, Lib.hid ⟨HBX.out, HX2.out⟩⟩, by simp [intOf]; omega⟩
    · obtain rfl : k = N := by omega
      have hall : someC k k = List.replicate k ⟨1, 0⟩ := by unfold someC; rw [Nat.sub_self]; exact List.append_nil _
      have hI := HI.out
      rw [hall] at hI
      have HBR := Lib.hid hI.1
      have HOR := Lib.hid hI.2
      clear hI HI hall HO1 HB1
      go_upto_region 12 with fail
      obtain ⟨X7, HX7⟩ : ∃ X, Hid (X = wr.drew) := ⟨_, rfl⟩
      have hd7 : Below wr.heap.size wr X7 := by rw [HX7.out]; exact bDrew wr
      have HO7 := Lib.hid (own_stay (w' := X7) HOR.out fun j hj => hd7.block j (HOR.out.lt j hj).2)
      have HB7 := Lib.hid (bNext HBR.out hd7)
      have HS7 := Lib.hid (HS.out.next HB7.out)
      refine wp_region_N (fun w' => Blk w' p 25 #[.slice A s.envs.length c, .int .i64 s.e, vc]) (fun j => decide (j < 17)) (by kernel_rfl) ?_
      rw [← HX7.out]
      clear HX7 hd7 HOR HBR
      have hS0 : (fun w' => Blk w' p 25 #[.slice A s.envs.length c, .int .i64 s.e, vc]) X7 := HS7.out.box
      refine wpAnyN_take (i := 0) (v := ?v8) rfl (by kernel_rfl) (by kernel_rfl) (by kernel_rfl) (by kernel_rfl) (fun _ _ _ h => h) (Or.inl ⟨by rfl, ?hy8⟩) (by assumption) ?_
      case hy8 => intro w hSw; have e0 := hSw.cell 0; have e1 := hSw.cell 1; simp at e0 e1; go_simp; try with_reducible rfl
      simp only [Act.put, List.getElem_toArray, List.getElem_cons_zero, List.setIfInBounds_toArray, List.set_cons_zero, List.set_cons_succ]
      refine wpAnyN_take (i := 1) (v := ?v9) rfl (by kernel_rfl) (by kernel_rfl) (by kernel_rfl) (by kernel_rfl) (fun _ _ _ h => h) (Or.inl ⟨by rfl, ?hy9⟩) (by assumption) ?_
      case hy9 => intro w hSw; have e0 := hSw.cell 0; have e1 := hSw.cell 1; simp at e0 e1; go_simp; try with_reducible rfl
      simp only [Act.put, List.getElem_toArray, List.getElem_cons_zero, List.getElem_cons_succ, List.setIfInBounds_toArray, List.set_cons_zero, List.set_cons_succ]
      refine wpAnyN_take (i := 2) (v := ?v10) rfl (by kernel_rfl) (by kernel_rfl) (by kernel_rfl) (by kernel_rfl) (fun _ _ _ h => h) (Or.inl ⟨by rfl, ?hy10⟩) (by assumption) ?_
      case hy10 => intro w hSw; have e0 := hSw.cell 0; have e1 := hSw.cell 1; simp at e0 e1; go_simp; try with_reducible rfl
      simp only [Act.put, List.getElem_toArray, List.getElem_cons_zero, List.getElem_cons_succ, List.setIfInBounds_toArray, List.set_cons_zero, List.set_cons_succ]
      refine wpAnyN_take (i := 3) (v := ?v11) rfl (by kernel_rfl) (by kernel_rfl) (by kernel_rfl) (by kernel_rfl) (fun _ _ _ h => h) (Or.inl ⟨by rfl, ?hy11⟩) (by assumption) ?_
      case hy11 => intro w hSw; have e0 := hSw.cell 0; have e1 := hSw.cell 1; simp at e0 e1; go_simp; try with_reducible rfl
      simp only [Act.put, List.getElem_toArray, List.getElem_cons_zero, List.getElem_cons_succ, List.setIfInBounds_toArray, List.set_cons_zero, List.set_cons_succ]
      refine wpAnyN_take (i := 4) (v := ?v12) rfl (by kernel_rfl) (by kernel_rfl) (by kernel_rfl) (by kernel_rfl) (fun _ _ _ h => h) (Or.inl ⟨by rfl, ?hy12⟩) (by assumption) ?_
      case hy12 => intro w hSw; have e0 := hSw.cell 0; have e1 := hSw.cell 1; simp at e0 e1; go_simp; try with_reducible rfl
      simp only [Act.put, List.getElem_toArray, List.getElem_cons_zero, List.getElem_cons_succ, List.setIfInBounds_toArray, List.set_cons_zero, List.set_cons_succ]
      refine wpAnyN_take (i := 5) (v := ?v13) rfl (by kernel_rfl) (by kernel_rfl) (by kernel_rfl) (by kernel_rfl) (fun _ _ _ h => h) (Or.inl ⟨by rfl, ?hy13⟩) (by assumption) ?_
      case hy13 => intro w hSw; have e0 := hSw.cell 0; have e1 := hSw.cell 1; simp at e0 e1; go_simp; try with_reducible rfl
      simp only [Act.put, List.getElem_toArray, List.getElem_cons_zero, List.getElem_cons_succ, List.setIfInBounds_toArray, List.set_cons_zero, List.set_cons_succ]
      refine wpAnyN_take (i := 7) (v := ?v14) rfl (by kernel_rfl) (by kernel_rfl) (by kernel_rfl) (by kernel_rfl) (fun _ _ _ h => h) (Or.inl ⟨by rfl, ?hy14⟩) (by assumption) ?_
      case hy14 => intro w hSw; have e0 := hSw.cell 0; have e1 := hSw.cell 1; simp at e0 e1; go_simp; try with_reducible rfl
      simp only [Act.put, List.getElem_toArray, List.getElem_cons_zero, List.getElem_cons_succ, List.setIfInBounds_toArray, List.set_cons_zero, List.set_cons_succ]
      refine wpAnyN_take (i := 8) (v := ?v15) rfl (by kernel_rfl) (by kernel_rfl) (by kernel_rfl) (by kernel_rfl) (fun _ _ _ h => h) (Or.inl ⟨by rfl, ?hy15⟩) (by assumption) ?_
      case hy15 => intro w hSw; have e0 := hSw.cell 0; have e1 := hSw.cell 1; simp at e0 e1; go_simp; try with_reducible rfl
      simp only [Act.put, List.getElem_toArray, List.getElem_cons_zero, List.getElem_cons_succ, List.setIfInBounds_toArray, List.set_cons_zero, List.set_cons_succ]
      refine wpAnyN_take (i := 9) (v := ?v16) rfl (by kernel_rfl) (by kernel_rfl) (by kernel_rfl) (by kernel_rfl) (fun _ _ _ h => h) (Or.inl ⟨by rfl, ?hy16⟩) (by assumption) ?_
      case hy16 => intro w hSw; have e0 := hSw.cell 0; have e1 := hSw.cell 1; simp at e0 e1; go_simp; try with_reducible rfl
      simp only [Act.put, List.getElem_toArray, List.getElem_cons_zero, List.getElem_cons_succ, List.setIfInBounds_toArray, List.set_cons_zero, List.set_cons_succ]
      refine wpAnyN_take (i := 10) (v := ?v17) rfl (by kernel_rfl) (by kernel_rfl) (by kernel_rfl) (by kernel_rfl) (fun _ _ _ h => h) (Or.inl ⟨by rfl, ?hy17⟩) (by assumption) ?_
      case hy17 => intro w hSw; have e0 := hSw.cell 0; have e1 := hSw.cell 1; simp at e0 e1; go_simp; try with_reducible rfl
      simp only [Act.put, List.getElem_toArray, List.getElem_cons_zero, List.getElem_cons_succ, List.setIfInBounds_toArray, List.set_cons_zero, List.set_cons_succ]
      refine wpAnyN_take (i := 11) (v := ?v18) rfl (by kernel_rfl) (by kernel_rfl) (by kernel_rfl) (by kernel_rfl) (fun _ _ _ h => h) (Or.inl ⟨by rfl, ?hy18⟩) (by assumption) ?_
      case hy18 => intro w hSw; have e0 := hSw.cell 0; have e1 := hSw.cell 1; simp at e0 e1; go_simp; try with_reducible rfl
      simp only [Act.put, List.getElem_toArray, List.getElem_cons_zero, List.getElem_cons_succ, List.setIfInBounds_toArray, List.set_cons_zero, List.set_cons_succ]
      refine wpAnyN_take (i := 12) (v := ?v19) rfl (by kernel_rfl) (by kernel_rfl) (by kernel_rfl) (by kernel_rfl) (fun _ _ _ h => h) (Or.inl ⟨by rfl, ?hy19⟩) (by assumption) ?_
      case hy19 => intro w hSw; have e0 := hSw.cell 0; have e1 := hSw.cell 1; simp at e0 e1; go_simp; try with_reducible rfl
      simp only [Act.put, List.getElem_toArray, List.getElem_cons_zero, List.getElem_cons_succ, List.setIfInBounds_toArray, List.set_cons_zero, List.set_cons_succ]
      refine wpAnyN_take (i := 13) (v := ?v20) rfl (by kernel_rfl) (by kernel_rfl) (by kernel_rfl) (by kernel_rfl) (fun _ _ _ h => h) (Or.inl ⟨by rfl, ?hy20⟩) (by assumption) ?_
      case hy20 => intro w hSw; have e0 := hSw.cell 0; have e1 := hSw.cell 1; simp at e0 e1; go_simp; try with_reducible rfl
      simp only [Act.put, List.getElem_toArray, List.getElem_cons_zero, List.getElem_cons_succ, List.setIfInBounds_toArray, List.set_cons_zero, List.set_cons_succ]
      refine wpAnyN_take (i := 14) (v := ?v21) rfl (by kernel_rfl) (by kernel_rfl) (by kernel_rfl) (by kernel_rfl) (fun _ _ _ h => h) (Or.inl ⟨by rfl, ?hy21⟩) (by assumption) ?_
      case hy21 => intro w hSw; have e0 := hSw.cell 0; have e1 := hSw.cell 1; simp at e0 e1; go_simp; try with_reducible rfl
      simp only [Act.put, List.getElem_toArray, List.getElem_cons_zero, List.getElem_cons_succ, List.setIfInBounds_toArray, List.set_cons_zero, List.set_cons_succ]
      refine wpAnyN_two (i := 6) (j := 15) (by kernel_rfl) rfl rfl (fun K1 hK1 => ?_) (fun K1 hK1 => ?_)
      · simp only [List.getElem_toArray, List.getElem_cons_zero, List.getElem_cons_succ]
        go_simp
        refine (cut_env _ HC.out hn hmI.out).mono ?_
        rintro e w6 ⟨rfl, h6⟩
        obtain rfl := h6.symm
        refine hK1 _ _ (fun _ => hS0) ?_
        (try simp only [Act.put, List.setIfInBounds_toArray, List.set_cons_zero, List.set_cons_succ])
        refine wpAnyN_one (i := 15) (by kernel_rfl) rfl (fun K2 hK2 => ?_)
        simp only [List.getElem_toArray, List.getElem_cons_zero, List.getElem_cons_succ]
        go_simp
        refine hK2 _ _ (fun _ => hS0.alloc _) ?_
        (try simp only [Act.put, List.setIfInBounds_toArray, List.set_cons_zero, List.set_cons_succ])
        have hX7 : B ≤ X7.heap.size := Nat.le_trans hBw HB7.out.size
        refine wpAnyN_one (i := 16) (by kernel_rfl) rfl (fun K hK => ?_)
        simp only [List.getElem_toArray, List.getElem_cons_zero, List.getElem_cons_succ]
        rw [if_pos (by rfl)]
        have hblk := Blk.new X7 54 #[.int .i64 s.e, .int .i64 id, .int .i64 pc, .slice (some ⟨q, 0, none⟩) k k]
        have hmn : m ≤ s.envs.length := by have := hmI.out; omega
        have hrw := own_cut (HS7.out.envs.alloc (.cells #[.int .i64 s.e, .int .i64 id, .int .i64 pc, .slice (some ⟨q, 0, none⟩) k k] 54)) hmn
        rw [eCs_take _ _ _ HS7.out.ylen] at hrw
        refine wp_append_lies _ (.tmp 53) (.tmp 62) 22 rfl B 54 i1 _ 4 48 Try.underlying22 hi1 hz1 hy1 hb1' rfl (by decide) (.slice A m c) m (eCs (s.envs.take m) (ys.take m)) rfl hrw ⟨X7.heap.size, 0, none⟩ 1 1 (eCs [⟨s.e, id, pc, List.replicate k ⟨1, 0⟩⟩] [.slice (some ⟨q, 0, none⟩) k k]) rfl ?c1 ?c2 ?c3 (by omega) ?c4 ?c5 ?c6 _ rfl ?_
        case c1 => rfl
        case c2 =>
          intro j u hj
          have h := hblk.cell j
          have e : (⟨X7.heap.size, 0, none⟩ : Addr).add j = ⟨X7.heap.size, j, none⟩ := by cases j <;> simp [Addr.add]
          rw [e]
          exact h.trans (by simpa [eCs] using hj)
        case c3 =>
          intro u hu
          simp only [eCs, List.mem_cons, List.not_mem_nil, or_false] at hu
          rcases hu with rfl | rfl | rfl | rfl <;> rfl
        case c4 => unfold maxLen; omega
        case c5 => omega
        case c6 => simp; omega
        intro gD e8 w8 ho8 hg8 hat8 hlt8
        have hgA : Value.ownBlock (.slice A m c) = Value.ownBlock (.slice A s.envs.length c) := by cases A <;> rfl
        rw [hgA] at hg8 hat8
        have hgp : Value.ownBlock (.slice A s.envs.length c) ≠ some p := fun e => own_ne HS7.out.envs HS7.out.box (by decide) e rfl
        have k8 : Blk w8 p 25 _ := Blk.grown (w := X7.alloc (.cells #[.int .i64 s.e, .int .i64 id, .int .i64 pc, .slice (some ⟨q, 0, none⟩) k k] 54)) (HS7.out.box.alloc _) hg8 hgp
        have f0 := k8.frozen 0
        have g0 := k8.cell 0
        have l8 := k8.lt
        simp at g0
        refine hK _ _ (fun _ => k8) ?_
        (try simp only [Act.put, List.setIfInBounds_toArray, List.set_cons_zero, List.set_cons_succ])
        refine wpAnyN_one (i := 17) (by kernel_rfl) rfl (fun K hK => ?_)
        simp only [List.getElem_toArray, List.getElem_cons_zero, List.getElem_cons_succ]
        go_simp
        refine hK _ _ (fun h => absurd h (by decide)) ?_
        (try simp only [Act.put, List.setIfInBounds_toArray, List.set_cons_zero, List.set_cons_succ])
        refine wpAnyN_one (i := 18) (by kernel_rfl) rfl (fun K hK => ?_)
        simp only [List.getElem_toArray, List.getElem_cons_zero, List.getElem_cons_succ]
        go_simp
        refine hK _ _ (fun h => absurd h (by decide)) ?_
        (try simp only [Act.put, List.setIfInBounds_toArray, List.set_cons_zero, List.set_cons_succ])
        refine wpAnyN_one (i := 19) (by kernel_rfl) rfl (fun K hK => ?_)
        simp only [List.getElem_toArray, List.getElem_cons_zero, List.getElem_cons_succ]
        go_simp
        refine hK _ _ (fun h => absurd h (by decide)) ?_
        (try simp only [Act.put, List.setIfInBounds_toArray, List.set_cons_zero, List.set_cons_succ])
        refine wpAnyN_done (by kernel_rfl) ?_ _
        have hbF := (k8.set_ 0 (.slice (some ⟨gD, 0, none⟩) (m + 1) e8)).set_ 1 (.int .i64 (mx + 1))
        have huF := ((Upd.refl p w8).set 0 (.slice (some ⟨gD, 0, none⟩) (m + 1) e8)).set 1 (.int .i64 (mx + 1))
        have hk9 := k8.set_ 0 (.slice (some ⟨gD, 0, none⟩) (m + 1) e8)
        have f1 := hk9.frozen 1
        have g1 := hk9.cell 1
        have l9 := hk9.lt
        simp at g1
        obtain ⟨W9, HW9⟩ : ∃ X, Hid (X = w8.setCell ⟨p, 0, none⟩ (.slice (some ⟨gD, 0, none⟩) (m + 1) e8)) := ⟨_, rfl⟩
        rw [← HW9.out] at hbF huF f1 g1 l9 ⊢
        obtain ⟨WF, HWF⟩ : ∃ X, Hid (X = W9.setCell ⟨p, 1, none⟩ (.int .i64 (mx + 1))) := ⟨_, rfl⟩
        rw [← HWF.out] at hbF huF
        have hz : ∀ j, j < X7.heap.size → j ≠ p → some j ≠ Value.ownBlock (.slice A s.envs.length c) → WF.heap[j]? = X7.heap[j]? := fun j h1 h2 h3 =>
          (huF.block j h2).trans ((hg8.block j (by simp; omega) h3).trans (Below.heap_alloc X7 _ j h1))
        have hrow : ∀ {t size n B' : Nat} {v : Value} {xs : List Value}, X7.ownsRow B' t size v n xs → t ≠ 25 → t ≠ 54 → WF.ownsRow B' t size v n xs := fun h1 t1 t2 =>
          own_stay h1 fun j hj => hz j (h1.lt j hj).2 (own_ne h1 HS7.out.box t1 hj) (own_apart h1 HS7.out.envs t2 hj)
        have hP := HS7.out.grown (WF := WF) (x := ⟨s.e, id, pc, List.replicate k ⟨1, 0⟩⟩) (vy := .slice (some ⟨q, 0, none⟩) k k) (b := w.heap.size) (g := gD) (e8 := e8) (e := mx + 1) hm.out HFL.out hz (by simpa using hbF) (own_stay ho8 fun j hj => huF.block j (own_ne ho8 k8 (by decide) hj))
          (own_base (by simpa using hrow HO7.out (by decide) (by decide)) hBw) (fun j hj => (HO7.out.lt j hj).1) (by
            rcases hat8 with h8 | h8
            · refine .inl ?_
              cases A
              · cases h8
              · simpa [Value.ownBlock] using h8
            · simp at h8
              exact .inr (by have := HB7.out.size; omega))
        have hKF : Kept (foot p (.slice A s.envs.length c) vc ys cs) w WF := by
          refine ⟨huF.os.trans (hg8.os.trans HB7.out.os), huF.tape.trans (hg8.tape.trans HB7.out.tape), huF.output.trans (hg8.output.trans HB7.out.output), ?_, fun j hj hf => (hz j (Nat.lt_of_lt_of_le hj HB7.out.size) (fun e => hf (e ▸ List.mem_cons_self)) (fun e => hf (foot_mem (by simp) e.symm))).trans (HB7.out.block j hj)⟩
          rw [huF.size]
          have h1 := hg8.size
          have h2 := HB7.out.size
          simp at h1
          omega
        have HP := Lib.hid hP
        have HKF := Lib.hid hKF
        clear hP hKF hrow hz hbF huF k8 hk9 ho8 hg8 hat8 hS0 hblk hrw f0 g0
        go_wp2_with fail
        go_ret
        rw [← HWF.out, HV.out, ← hm.out]
        exact ⟨rfl, ⟨_, _, _, _, HP.out.1, HP.out.2⟩, HKF.out⟩
      · simp only [List.getElem_toArray, List.getElem_cons_zero, List.getElem_cons_succ]
        go_simp
        refine hK1 _ _ (fun _ => hS0.alloc _) ?_
        (try simp only [Act.put, List.setIfInBounds_toArray, List.set_cons_zero, List.set_cons_succ])
        refine wpAnyN_one (i := 6) (by kernel_rfl) rfl (fun K2 hK2 => ?_)
        simp only [List.getElem_toArray, List.getElem_cons_zero, List.getElem_cons_succ]
        go_simp
        refine (cut_env _ HC.out hn hmI.out).mono ?_
        rintro e w6 ⟨rfl, h6⟩
        obtain rfl := h6.symm
        refine hK2 _ _ (fun _ => hS0.alloc _) ?_
        (try simp only [Act.put, List.setIfInBounds_toArray, List.set_cons_zero, List.set_cons_succ])
        have hX7 : B ≤ X7.heap.size := Nat.le_trans hBw HB7.out.size
        refine wpAnyN_one (i := 16) (by kernel_rfl) rfl (fun K hK => ?_)
        simp only [List.getElem_toArray, List.getElem_cons_zero, List.getElem_cons_succ]
        rw [if_pos (by rfl)]
        have hblk := Blk.new X7 54 #[.int .i64 s.e, .int .i64 id, .int .i64 pc, .slice (some ⟨q, 0, none⟩) k k]
        have hmn : m ≤ s.envs.length := by have := hmI.out; omega
        have hrw := own_cut (HS7.out.envs.alloc (.cells #[.int .i64 s.e, .int .i64 id, .int .i64 pc, .slice (some ⟨q, 0, none⟩) k k] 54)) hmn
        rw [eCs_take _ _ _ HS7.out.ylen] at hrw
        refine wp_append_lies _ (.tmp 53) (.tmp 62) 22 rfl B 54 i1 _ 4 48 Try.underlying22 hi1 hz1 hy1 hb1' rfl (by decide) (.slice A m c) m (eCs (s.envs.take m) (ys.take m)) rfl hrw ⟨X7.heap.size, 0, none⟩ 1 1 (eCs [⟨s.e, id, pc, List.replicate k ⟨1, 0⟩⟩] [.slice (some ⟨q, 0, none⟩) k k]) rfl ?d1 ?d2 ?d3 (by omega) ?d4 ?d5 ?d6 _ rfl ?_
        case d1 => rfl
        case d2 =>
          intro j u hj
          have h := hblk.cell j
          have e : (⟨X7.heap.size, 0, none⟩ : Addr).add j = ⟨X7.heap.size, j, none⟩ := by cases j <;> simp [Addr.add]
          rw [e]
          exact h.trans (by simpa [eCs] using hj)
        case d3 =>
          intro u hu
          simp only [eCs, List.mem_cons, List.not_mem_nil, or_false] at hu
          rcases hu with rfl | rfl | rfl | rfl <;> rfl
        case d4 => unfold maxLen; omega
        case d5 => omega
        case d6 => simp; omega
        intro gD e8 w8 ho8 hg8 hat8 hlt8
        have hgA : Value.ownBlock (.slice A m c) = Value.ownBlock (.slice A s.envs.length c) := by cases A <;> rfl
        rw [hgA] at hg8 hat8
        have hgp : Value.ownBlock (.slice A s.envs.length c) ≠ some p := fun e => own_ne HS7.out.envs HS7.out.box (by decide) e rfl
        have k8 : Blk w8 p 25 _ := Blk.grown (w := X7.alloc (.cells #[.int .i64 s.e, .int .i64 id, .int .i64 pc, .slice (some ⟨q, 0, none⟩) k k] 54)) (HS7.out.box.alloc _) hg8 hgp
        have f0 := k8.frozen 0
        have g0 := k8.cell 0
        have l8 := k8.lt
        simp at g0
        refine hK _ _ (fun _ => k8) ?_
        (try simp only [Act.put, List.setIfInBounds_toArray, List.set_cons_zero, List.set_cons_succ])
        refine wpAnyN_one (i := 17) (by kernel_rfl) rfl (fun K hK => ?_)
        simp only [List.getElem_toArray, List.getElem_cons_zero, List.getElem_cons_succ]
        go_simp
        refine hK _ _ (fun h => absurd h (by decide)) ?_
        (try simp only [Act.put, List.setIfInBounds_toArray, List.set_cons_zero, List.set_cons_succ])
        refine wpAnyN_one (i := 18) (by kernel_rfl) rfl (fun K hK => ?_)
        simp only [List.getElem_toArray, List.getElem_cons_zero, List.getElem_cons_succ]
        go_simp
        refine hK _ _ (fun h => absurd h (by decide)) ?_
        (try simp only [Act.put, List.setIfInBounds_toArray, List.set_cons_zero, List.set_cons_succ])
        refine wpAnyN_one (i := 19) (by kernel_rfl) rfl (fun K hK => ?_)
        simp only [List.getElem_toArray, List.getElem_cons_zero, List.getElem_cons_succ]
        go_simp
        refine hK _ _ (fun h => absurd h (by decide)) ?_
        (try simp only [Act.put, List.setIfInBounds_toArray, List.set_cons_zero, List.set_cons_succ])
        refine wpAnyN_done (by kernel_rfl) ?_ _
        have hbF := (k8.set_ 0 (.slice (some ⟨gD, 0, none⟩) (m + 1) e8)).set_ 1 (.int .i64 (mx + 1))
        have huF := ((Upd.refl p w8).set 0 (.slice (some ⟨gD, 0, none⟩) (m + 1) e8)).set 1 (.int .i64 (mx + 1))
        have hk9 := k8.set_ 0 (.slice (some ⟨gD, 0, none⟩) (m + 1) e8)
        have f1 := hk9.frozen 1
        have g1 := hk9.cell 1
        have l9 := hk9.lt
        simp at g1
        obtain ⟨W9, HW9⟩ : ∃ X, Hid (X = w8.setCell ⟨p, 0, none⟩ (.slice (some ⟨gD, 0, none⟩) (m + 1) e8)) := ⟨_, rfl⟩
        rw [← HW9.out] at hbF huF f1 g1 l9 ⊢
        obtain ⟨WF, HWF⟩ : ∃ X, Hid (X = W9.setCell ⟨p, 1, none⟩ (.int .i64 (mx + 1))) := ⟨_, rfl⟩
        rw [← HWF.out] at hbF huF
        have hz : ∀ j, j < X7.heap.size → j ≠ p → some j ≠ Value.ownBlock (.slice A s.envs.length c) → WF.heap[j]? = X7.heap[j]? := fun j h1 h2 h3 =>
          (huF.block j h2).trans ((hg8.block j (by simp; omega) h3).trans (Below.heap_alloc X7 _ j h1))
        have hrow : ∀ {t size n B' : Nat} {v : Value} {xs : List Value}, X7.ownsRow B' t size v n xs → t ≠ 25 → t ≠ 54 → WF.ownsRow B' t size v n xs := fun h1 t1 t2 =>
          own_stay h1 fun j hj => hz j (h1.lt j hj).2 (own_ne h1 HS7.out.box t1 hj) (own_apart h1 HS7.out.envs t2 hj)
        have hP := HS7.out.grown (WF := WF) (x := ⟨s.e, id, pc, List.replicate k ⟨1, 0⟩⟩) (vy := .slice (some ⟨q, 0, none⟩) k k) (b := w.heap.size) (g := gD) (e8 := e8) (e := mx + 1) hm.out HFL.out hz (by simpa using hbF) (own_stay ho8 fun j hj => huF.block j (own_ne ho8 k8 (by decide) hj))
          (own_base (by simpa using hrow HO7.out (by decide) (by decide)) hBw) (fun j hj => (HO7.out.lt j hj).1) (by
            rcases hat8 with h8 | h8
            · refine .inl ?_
              cases A
              · cases h8
              · simpa [Value.ownBlock] using h8
            · simp at h8
              exact .inr (by have := HB7.out.size; omega))
        have hKF : Kept (foot p (.slice A s.envs.length c) vc ys cs) w WF := by
          refine ⟨huF.os.trans (hg8.os.trans HB7.out.os), huF.tape.trans (hg8.tape.trans HB7.out.tape), huF.output.trans (hg8.output.trans HB7.out.output), ?_, fun j hj hf => (hz j (Nat.lt_of_lt_of_le hj HB7.out.size) (fun e => hf (e ▸ List.mem_cons_self)) (fun e => hf (foot_mem (by simp) e.symm))).trans (HB7.out.block j hj)⟩
          rw [huF.size]
          have h1 := hg8.size
          have h2 := HB7.out.size
          simp at h1
          omega
        have HP := Lib.hid hP
        have HKF := Lib.hid hKF
        clear hP hKF hrow hz hbF huF k8 hk9 ho8 hg8 hat8 hS0 hblk hrw f0 g0
        go_wp2_with fail
        go_ret
        rw [← HWF.out, HV.out, ← hm.out]
        exact ⟨rfl, ⟨_, _, _, _, HP.out.1, HP.out.2⟩, HKF.out⟩
end Go.Proofs.Ytpkpffnabcgcbaa
