/-
  Walks: the reference's Canon and Vars; the law's atoms and one.
-/
import Derived.Test.YtcagaaacfcpoeaaGreatCs
namespace Go.Proofs.YtcagaaacfcpoeaaGreat
open Go.RowKit

theorem bNone {w w1 : World} (h : w.grownBy w1 none) : Below w.heap.size w w1 := (Below.refl _ _).grown h (Nat.le_refl _) (fun k hk => by cases hk)
theorem canT_args (t : Tm) : (canT t).args = t.args.map (mapT (numF (varsT t []))) := by
  unfold canT; rw [mapT_eq]; rfl
set_option maxRecDepth 100000 in
set_option maxHeartbeats 4000000 in
theorem canon15_any (t : Tm) (A : Option Addr) (c : Nat) (w : World) (ha : ArgsAt w (Old w.heap.size) A t.args) :
    Calls Tryz.prog 87 #[t.v A c] w fun e w' => NewT w (canonT t) e w' ∧ Below w.heap.size w w' := by
  obtain ⟨W, HW⟩ : ∃ X, Hid (X = (w.alloc (.cells #[.int .i64 t.kind, .int .i64 t.n, .string t.name, .slice A t.args.length c] 24)).alloc (.cells #[.int .i64 0, .int .i64 0, .string { data := #[] }, .slice none 0 0] 24)) := ⟨_, rfl⟩
  have hbW : Below w.heap.size w W := by rw [HW.out]; exact (bAlloc w _).alloc (by simp) _
  obtain ⟨q, hq⟩ : ∃ q, Hid (q = w.heap.size) := ⟨_, rfl⟩
  obtain ⟨r, hr⟩ : ∃ q, Hid (q = w.heap.size + 1) := ⟨_, rfl⟩
  have hk0 : Blk W q 24 #[.int .i64 t.kind, .int .i64 t.n, .string t.name, .slice A t.args.length c] := by rw [HW.out, hq.out]; exact (Blk.new w _ _).alloc _
  have hk1 : Blk W r 24 #[.int .i64 0, .int .i64 0, .string { data := #[] }, .slice none 0 0] := by
    rw [HW.out, hr.out]
    have h1 := Blk.new (w.alloc (.cells #[.int .i64 t.kind, .int .i64 t.n, .string t.name, .slice A t.args.length c] 24)) 24 #[.int .i64 0, .int .i64 0, .string { data := #[] }, .slice none 0 0]
    rw [World.size_alloc] at h1
    exact h1
  have HA := Lib.hid ha
  have HB := Lib.hid hbW
  have HK := Lib.hid hk0
  have HR := Lib.hid hk1
  have hqr : q ≠ r := by rw [hq.out, hr.out]; omega
  have hqw : w.heap.size ≤ q := by rw [hq.out]; exact Nat.le_refl _
  have hrw : w.heap.size ≤ r := by rw [hr.out]; omega
  have e0 := hk0.cell 0
  have e1 := hk0.cell 1
  have e2 := hk0.cell 2
  have e3 := hk0.cell 3
  have el := hk0.lt
  simp at e0 e1 e2 e3
  clear ha hbW hk0 hk1
  go_enter Tryz.func87, Tryz.ntmps87
  go_upto_region 1 with fail
  rw [← HW.out, ← hr.out, ← hq.out]
  clear HW
  go_wp2_with fail
  refine (valid03_any t A c W (ArgsNext HA.out HB.out)).mono ?_
  rintro e w1 ⟨rfl, hb1⟩
  have HB1 := Lib.hid (bNext HB.out hb1)
  have HR1 := Lib.hid (BlkNext HR.out hb1)
  have HK1 := Lib.hid (BlkNext HK.out hb1)
  clear e0 e1 e2 e3 el hb1
  cases hv : validT t
  · have HV := Lib.hid (show canonT t = zeroT by unfold canonT; rw [hv]; rfl)
    clear hv
    have r0 := HR1.out.cell 0
    have f0 := HR1.out.frozen 0
    have r1 := HR1.out.cell 1
    have f1 := HR1.out.frozen 1
    have r2 := HR1.out.cell 2
    have f2 := HR1.out.frozen 2
    have r3 := HR1.out.cell 3
    have f3 := HR1.out.frozen 3
    have rl := HR1.out.lt
    simp at r0 r1 r2 r3
    go_wp2_with fail
    refine bodyPost_ret (v := Tm.v zeroT none 0) (by simp only [results, Tryz.results87, Tm.kind, Tm.n, Tm.name, Tm.args]; go_simp; exact ⟨rfl, rfl, rfl, rfl⟩) rfl ⟨by rw [HV.out]; exact ⟨none, 0, rfl, .nil _⟩, ?_⟩
    repeat refine Below.setCell ?_ hrw _
    exact HB1.out
  · have HV := Lib.hid (show canonT t = canT t by unfold canonT; rw [hv]; rfl)
    have HOK := Lib.hid (validT_ok hv)
    clear hv
    go_upto_region 3 with fail
    obtain ⟨D, hD⟩ : ∃ X, Hid (X = w1.drew) := ⟨_, rfl⟩
    have hd : Below w1.heap.size w1 D := by rw [hD.out]; exact bDrewN (Below.refl _ _) 1
    have hS0 : Below w1.heap.size w1 D := hd
    refine wp_region_N (fun w' => Below w1.heap.size w1 w') (fun i => decide (i ≠ 4)) (by kernel_rfl) ?_
    rw [← hD.out]
    have HBD := Lib.hid (bNext HB1.out hd)
    have HRD := Lib.hid (BlkNext HR1.out hd)
    clear hD hd
    refine wpAnyN_take (i := 0) (v := ?v1) rfl (by kernel_rfl) (by kernel_rfl) (by kernel_rfl) (by kernel_rfl) (fun _ _ _ h => h) (Or.inl ⟨by rfl, ?hy1⟩) (by assumption) ?_
    case hy1 => intro w hSw; have h := BlkNext HK1.out hSw; have e0 := h.cell 0; have e1 := h.cell 1; have e2 := h.cell 2; have e3 := h.cell 3; have el := h.lt; simp at e0 e1 e2 e3; clear h; go_simp; try with_reducible rfl
    simp only [Act.put, List.getElem_toArray, List.getElem_cons_zero, List.setIfInBounds_toArray, List.set_cons_zero, List.set_cons_succ]
    refine wpAnyN_take (i := 2) (v := ?v2) rfl (by kernel_rfl) (by kernel_rfl) (by kernel_rfl) (by kernel_rfl) (fun _ _ _ h => h) (Or.inl ⟨by rfl, ?hy2⟩) (by assumption) ?_
    case hy2 => intro w hSw; have h := BlkNext HK1.out hSw; have e0 := h.cell 0; have e1 := h.cell 1; have e2 := h.cell 2; have e3 := h.cell 3; have el := h.lt; simp at e0 e1 e2 e3; clear h; go_simp; try with_reducible rfl
    simp only [Act.put, List.getElem_toArray, List.getElem_cons_zero, List.getElem_cons_succ, List.setIfInBounds_toArray, List.set_cons_zero, List.set_cons_succ]
    refine wpAnyN_one (i := 1) (by kernel_rfl) rfl (fun K hK => ?_)
    simp only [List.getElem_toArray, List.getElem_cons_zero, List.getElem_cons_succ]
    go_simp
    refine (vars_any _ t (Nat.lt_succ_self _) A c D.heap.size 0 (.slice none 0 0) [] D (Nat.le_refl _) (by have := HOK.out.2; omega) (World.ownsRow_nil _ _ _ _) (ArgsNext HA.out HBD.out)).mono ?_
    rintro e w2 ⟨v2, n2, rfl, ho2, hg2, -⟩
    obtain ⟨A2, c2, rfl, hI2⟩ := own_ints ho2 (by have h1 := ho2.1; have h2 := varsT_len _ t [] (Nat.lt_succ_self _); have := HOK.out.2; simp at h1 h2; omega)
    have hb2 := bNone hg2
    have hk2 : Below w1.heap.size w1 w2 := bNext hS0 hb2
    have HB2 := Lib.hid (bNext HBD.out hb2)
    have HR2 := Lib.hid (BlkNext HRD.out hb2)
    have HI2 := Lib.hid hI2
    refine hK _ _ (fun _ => hk2) ?_
    clear ho2 hg2 hb2 hI2 hS0
    (try simp only [Act.put, List.setIfInBounds_toArray, List.set_cons_zero, List.set_cons_succ])
    refine wpAnyN_one (i := 3) (by kernel_rfl) rfl (fun K hK => ?_)
    simp only [List.getElem_toArray, List.getElem_cons_zero, List.getElem_cons_succ]
    go_simp
    refine (number_any _ t (Nat.lt_succ_self _) (by have := HOK.out.2; omega) A c A2 n2 c2 (varsT t []) w2 HI2.out (ArgsNext HA.out HB2.out)).mono ?_
    rintro e w3 ⟨⟨v3, rs3, rfl, hrs3, hm3⟩, hb3⟩
    obtain ⟨A3, c3, rfl, ha3⟩ := made_new hrs3 hm3 (by have := args_le t; have := HOK.out.2; omega)
    have HB3 := Lib.hid (bNext HB2.out hb3)
    have HR3 := Lib.hid (BlkNext HR2.out hb3)
    have hk3 : Below w1.heap.size w1 w3 := bNext hk2 hb3
    have HA3 := Lib.hid (show ArgsAt w3 (Btw w2.heap.size w3.heap.size) A3 (canT t).args by rw [canT_args]; exact ha3)
    have hz2 := HB2.out.size
    have hl2 := HR2.out.lt
    refine hK _ _ (fun _ => hk3) ?_
    clear hrs3 hm3 ha3 hb3 hk2 hk3
    (try simp only [Act.put, List.setIfInBounds_toArray, List.set_cons_zero, List.set_cons_succ])
    have r0 := HR3.out.cell 0
    have f0 := HR3.out.frozen 0
    have r1 := HR3.out.cell 1
    have f1 := HR3.out.frozen 1
    have r2 := HR3.out.cell 2
    have f2 := HR3.out.frozen 2
    have r3 := HR3.out.cell 3
    have f3 := HR3.out.frozen 3
    have rl := HR3.out.lt
    simp at r0 r1 r2 r3
    refine wpAnyN_one (i := 4) (by kernel_rfl) rfl (fun K hK => ?_)
    simp only [List.getElem_toArray, List.getElem_cons_zero, List.getElem_cons_succ]
    go_simp
    refine hK _ _ (fun h => absurd h (by decide)) ?_
    (try simp only [Act.put, List.setIfInBounds_toArray, List.set_cons_zero, List.set_cons_succ])
    refine wpAnyN_done (by kernel_rfl) ?_ _
    have HCK := Lib.hid (show (canT t).v A3 c3 = .agg #[.int .i64 t.kind, .int .i64 (numF (varsT t []) t.kind t.n), .string t.name, .slice A3 t.args.length c3] by
      unfold canT; rw [mapT_eq]; simp [Tm.v, Tm.kind, Tm.n, Tm.name, Tm.args])
    go_wp2_with fail
    refine bodyPost_ret (v := .agg #[.int .i64 t.kind, .int .i64 (numF (varsT t []) t.kind t.n), .string t.name, .slice A3 t.args.length c3]) (by simp only [results, Tryz.results87]; go_simp) rfl ⟨?_, ?_⟩
    · rw [HV.out]
      refine ⟨A3, c3, by rw [HCK.out], ?_⟩
      refine HA3.out.keep (fun b hb => ?_) (fun b hb => ⟨by have := hb.1; omega, by have := hb.2; simpa using this⟩)
      repeat rw [heap_setCell_other _ _ _ _ (by have := hb.1; simp; omega)]
    · repeat refine Below.setCell ?_ hrw _
      exact HB3.out
def VarR (t : Tm) (e : Ending) : Prop := ∃ A' n' c', e = .returned (.slice A' n' c') ∧ n' = if validT t = true then (varsT t []).length else 0
theorem atmT_eq (t : Tm) : atmT t = (t.kind == 2 || atmT.go t.args) := by cases t; rw [atmT_mk]; rfl
theorem atm_go_append (a b : List Tm) : atmT.go (a ++ b) = (atmT.go a || atmT.go b) := by
  induction a with
  | nil => simp [atmT.go]
  | cons x r ih => simp [atmT.go, ih, Bool.or_assoc]
theorem atm_next {l : List Tm} {i : Nat} {x : Tm} (h : l[i]? = some x) : atmT.go (l.take (i + 1)) = (atmT.go (l.take i) || atmT x) := by
  rw [List.take_add_one, h]
  simp [atm_go_append, atmT.go]
theorem atm_true {l : List Tm} {i : Nat} (h : atmT.go (l.take i) = true) : atmT.go l = true := by
  have := atm_go_append (l.take i) (l.drop i)
  rw [List.take_append_drop] at this
  rw [this, h]; rfl
end Go.Proofs.YtcagaaacfcpoeaaGreat
