/-
  Walks: Build, and Build of the reference.
-/
import Derived.Test.YtpkpdjekoghkcaaWe
import Derived.Test.YtpkpdjekoghkcaaWf
namespace Go.Proofs.Ytpkpdjekoghkcaa
open Go.RowKit

/-- the index of a list of keys -/
def ixOf (ks : List K) : Ix := ⟨listTo ks zeroK ks.length, (nubTo ks ks.length).map fun x => (x, listTo ks x ks.length), restTo ks ks.length⟩
/-- what Build returns -/
def buildIx (ks : List K) : Ix := if ks.all okK && decide (ks.length ≤ 500) then ixOf ks else ⟨[], [], []⟩
def buildE (ks : List K) : Int := if ks.all okK then (if ks.length ≤ 500 then 0 else 2) else 1

theorem all_next {ks : List K} {x : K} {k : Nat} (h : (ks.take k).all okK = true) (hx : ks[k]? = some x) (hok : okK x = true) : (ks.take (k + 1)).all okK = true := by
  rw [List.take_add_one, hx]; simp only [Option.toList, List.all_append, List.all_cons, List.all_nil, h, hok, Bool.and_self]
theorem all_not {ks : List K} {x : K} {k : Nat} (hx : ks[k]? = some x) (hok : okK x = false) : ks.all okK = false := by
  rw [List.all_eq_false]; exact ⟨x, List.mem_of_getElem? hx, by simp [hok]⟩

set_option maxRecDepth 100000 in
set_option maxHeartbeats 2000000 in
theorem Build_any (A : Option Addr) (n c : Nat) (ks : List K) (w : World) (ha : KeysAt w w.heap.size A n ks) :
    Calls Try.prog 11 #[.slice A n c] w fun e w' => (∃ v, e = .returned (.tuple #[v, .int .i64 (buildE ks)]) ∧ IxAt w' w'.heap.size v (buildIx ks)) ∧ Below w.heap.size w w' := by
  have hn := ha.1.2
  have hnl := ha.1.1
  go_enter Try.func11, Try.ntmps11
  go_wp2_with fail
  go_loopw [8] (fun i wr => ∃ j, j ≤ n ∧ i = .int .i64 ((j : Nat) : Int) ∧ Below (w.heap.size + 1) (w.alloc (.cells #[.slice none 0 0, .slice none 0 0, .slice none 0 0] 26)) wr ∧ (ks.take j).all okK = true) (fun i _ => n - (intOf i).toNat)
  case atStart => exact ⟨0, by omega, rfl, Below.refl _ _, by simp⟩
  case round =>
    obtain ⟨j, hj, rfl, hb, hall⟩ := hrel
    have hbw : Below w.heap.size w wr := bStart (hb.mono (by simp))
    have r0 : wr.cell? ⟨w.heap.size, 0, none⟩ = some (.slice none 0 0) := (hb.cell (p := ⟨w.heap.size, 0, none⟩) (by simp)).trans (by simp [go_sem])
    have r1 : wr.cell? ⟨w.heap.size, 1, none⟩ = some (.slice none 0 0) := (hb.cell (p := ⟨w.heap.size, 1, none⟩) (by simp)).trans (by simp [go_sem])
    have r2 : wr.cell? ⟨w.heap.size, 2, none⟩ = some (.slice none 0 0) := (hb.cell (p := ⟨w.heap.size, 2, none⟩) (by simp)).trans (by simp [go_sem])
    have f0 : ∀ o, wr.frozen? ⟨w.heap.size, o, none⟩ = false := fun o => (hb.frozen (p := ⟨w.heap.size, o, none⟩) (by simp)).trans (by simp [go_sem])
    have hz : w.heap.size < wr.heap.size := by have := hb.size; simp at this; omega
    by_cases hlt : j < n
    · obtain ⟨b, off, x, rfl, hB, hx, hx4⟩ := (ha.below hbw).at hlt
      obtain ⟨h1, h2, h3, h4⟩ := hx4.four
      have zb : b < wr.heap.size := by omega
      have HX := Lib.hid hx
      have HA := Lib.hid hall
      have HB := Lib.hid hb
      clear hx hx4 hall hb hbw ha hnl
      go_wp2_with fail
      refine (valid_any x _).mono ?_
      rintro e w2 ⟨rfl, hb2⟩
      have hb3 := HB.out.trans ((bStart hb2).mono (by omega))
      have t0 : w2.cell? ⟨w.heap.size, 0, none⟩ = some (.slice none 0 0) := ((bStart hb2).cell (p := ⟨w.heap.size, 0, none⟩) hz).trans r0
      have t1 : w2.cell? ⟨w.heap.size, 1, none⟩ = some (.slice none 0 0) := ((bStart hb2).cell (p := ⟨w.heap.size, 1, none⟩) hz).trans r1
      have t2 : w2.cell? ⟨w.heap.size, 2, none⟩ = some (.slice none 0 0) := ((bStart hb2).cell (p := ⟨w.heap.size, 2, none⟩) hz).trans r2
      have t3 : ∀ o, w2.frozen? ⟨w.heap.size, o, none⟩ = false := fun o => ((bStart hb2).frozen (p := ⟨w.heap.size, o, none⟩) hz).trans (f0 o)
      have HB3 := Lib.hid hb3
      clear r0 r1 r2 f0 hb2 hb3
      cases hok : okK x
      · go_wp2_with fail
        refine bodyPost_ret (v := .tuple #[.agg #[.slice none 0 0, .slice none 0 0, .slice none 0 0], .int .i64 1]) (by simp [results, Try.results11, go_sem, t0, t1, t2]) rfl ⟨⟨_, by unfold buildE; rw [all_not HX.out hok]; rfl, ?_⟩, ?_⟩
        · unfold buildIx; rw [all_not HX.out hok]; exact IxAt.empty _ _
        · exact ((bStart (HB3.out.mono (by simp))).setCell (Nat.le_refl _) _).setCell (Nat.le_refl _) _ |>.setCell (Nat.le_refl _) _
      · go_wp2_with fail
        exact ⟨⟨j + 1, by omega, by go_num, HB3.out, all_next HA.out HX.out hok⟩, by simp [intOf]; omega⟩
    · have hjn : j = n := by omega
      subst hjn
      have hall' : ks.all okK = true := by rwa [List.take_of_length_le (by omega)] at hall
      have HB := Lib.hid hb
      have HA := Lib.hid hall'
      have hb1 := ha.below hbw
      clear hall hall' hb
      by_cases h5 : j ≤ 500
      · go_wp2_with fail
        refine (build_any A j c ks _ (by omega) (hb1.more hbw.size)).mono ?_
        rintro e w2 ⟨⟨v, rfl, hv⟩, hb2⟩
        have hres : w2.heap[w.heap.size]? = some (.cells #[.slice none 0 0, .slice none 0 0, .slice none 0 0] 26 (0, 0)) := (hb2.block _ hz).trans ((HB.out.block _ (by omega)).trans (heap_alloc_new w _))
        have hni : ∀ o x, w2.cell? ⟨w.heap.size, o, none⟩ ≠ some (.int .i64 x) := fun o x => by
          rw [cell_of_row w2 w.heap.size o _ _ _ hres]
          match o with
          | 0 => simp
          | 1 => simp
          | 2 => simp
          | o + 3 => simp
        have t0 : w2.cell? ⟨w.heap.size, 0, none⟩ = some (.slice none 0 0) := (hb2.cell (p := ⟨w.heap.size, 0, none⟩) hz).trans r0
        have t1 : w2.cell? ⟨w.heap.size, 1, none⟩ = some (.slice none 0 0) := (hb2.cell (p := ⟨w.heap.size, 1, none⟩) hz).trans r1
        have t2 : w2.cell? ⟨w.heap.size, 2, none⟩ = some (.slice none 0 0) := (hb2.cell (p := ⟨w.heap.size, 2, none⟩) hz).trans r2
        have t3 : ∀ o, w2.frozen? ⟨w.heap.size, o, none⟩ = false := fun o => (hb2.frozen (p := ⟨w.heap.size, o, none⟩) hz).trans (f0 o)
        have hb3 : Below w.heap.size w w2 := bNext hbw hb2
        have HV := Lib.hid hv
        have HB3 := Lib.hid hb3
        have HN := Lib.hid hni
        obtain ⟨A0, c0, A1, c1, A2, c2, rfl, _⟩ := hv
        clear r0 r1 r2 f0 hb2 hb3 hni hres
        go_wp2_with fail
        refine bodyPost_ret (v := .tuple #[.agg #[.slice A0 (listTo ks zeroK j).length c0, .slice A1 ((nubTo ks j).map fun x => (x, listTo ks x j)).length c1, .slice A2 (restTo ks j).length c2], .int .i64 0]) (by simp [results, Try.results11, go_sem, t0, t1, t2]) rfl ⟨⟨_, by unfold buildE; rw [HA.out, if_pos rfl, if_pos (by omega)], ?_⟩, ?_⟩
        · have e : buildIx ks = ⟨listTo ks zeroK j, (nubTo ks j).map fun x => (x, listTo ks x j), restTo ks j⟩ := by
            unfold buildIx; rw [HA.out, hnl, decide_eq_true h5]; simp [ixOf, hnl]
          rw [e]
          refine (HV.out.apart HN.out fun b hb => ?_).more (by simp [World.setCell])
          rw [heap_setCell_other _ _ _ _ hb, heap_setCell_other _ _ _ _ hb, heap_setCell_other _ _ _ _ hb]
        · exact ((HB3.out.setCell (Nat.le_refl _) _).setCell (Nat.le_refl _) _).setCell (Nat.le_refl _) _
      · go_wp2_with fail
        refine bodyPost_ret (v := .tuple #[.agg #[.slice none 0 0, .slice none 0 0, .slice none 0 0], .int .i64 2]) (by simp [results, Try.results11, go_sem, r0, r1, r2]) rfl ⟨⟨_, by unfold buildE; rw [HA.out, if_pos rfl, if_neg (by omega)], ?_⟩, ?_⟩
        · unfold buildIx; rw [HA.out, hnl, decide_eq_false h5]; exact IxAt.empty _ _
        · exact ((bStart (HB.out.mono (by simp))).setCell (Nat.le_refl _) _).setCell (Nat.le_refl _) _ |>.setCell (Nat.le_refl _) _
set_option maxRecDepth 100000 in
set_option maxHeartbeats 2000000 in
theorem refBuild_any (A : Option Addr) (n c : Nat) (ks : List K) (w : World) (ha : KeysAt w w.heap.size A n ks) :
    Calls Try.prog 12 #[.slice A n c] w fun e w' => (∃ v, e = .returned (.tuple #[v, .int .i64 (buildE ks)]) ∧ IxAt w' w'.heap.size v (buildIx ks)) ∧ Below w.heap.size w w' := by
  have hn := ha.1.2
  have hnl := ha.1.1
  go_enter Try.func12, Try.ntmps12
  go_wp2_with fail
  go_loopw [4] (fun i wr => ∃ j, j ≤ n ∧ i = .int .i64 ((j : Nat) : Int) ∧ Below (w.heap.size + 1) (w.alloc (.cells #[.slice none 0 0, .slice none 0 0, .slice none 0 0] 26)) wr ∧ (ks.take j).all okK = true) (fun i _ => n - (intOf i).toNat)
  case atStart => exact ⟨0, by omega, rfl, Below.refl _ _, by simp⟩
  case round =>
    obtain ⟨j, hj, rfl, hb, hall⟩ := hrel
    have hbw : Below w.heap.size w wr := bStart (hb.mono (by simp))
    have r0 : wr.cell? ⟨w.heap.size, 0, none⟩ = some (.slice none 0 0) := (hb.cell (p := ⟨w.heap.size, 0, none⟩) (by simp)).trans (by simp [go_sem])
    have r1 : wr.cell? ⟨w.heap.size, 1, none⟩ = some (.slice none 0 0) := (hb.cell (p := ⟨w.heap.size, 1, none⟩) (by simp)).trans (by simp [go_sem])
    have r2 : wr.cell? ⟨w.heap.size, 2, none⟩ = some (.slice none 0 0) := (hb.cell (p := ⟨w.heap.size, 2, none⟩) (by simp)).trans (by simp [go_sem])
    have f0 : ∀ o, wr.frozen? ⟨w.heap.size, o, none⟩ = false := fun o => (hb.frozen (p := ⟨w.heap.size, o, none⟩) (by simp)).trans (by simp [go_sem])
    have hz : w.heap.size < wr.heap.size := by have := hb.size; simp at this; omega
    by_cases hlt : j < n
    · obtain ⟨b, off, x, rfl, hB, hx, hx4⟩ := (ha.below hbw).at hlt
      obtain ⟨h1, h2, h3, h4⟩ := hx4.four
      have zb : b < wr.heap.size := by omega
      have HX := Lib.hid hx
      have HA := Lib.hid hall
      have HB := Lib.hid hb
      clear hx hx4 hall hb hbw ha hnl
      go_wp2_with fail
      refine (validKey_any x _).mono ?_
      rintro e w2 ⟨rfl, hb2⟩
      have hb3 := HB.out.trans (hb2.mono (by omega))
      have t0 : w2.cell? ⟨w.heap.size, 0, none⟩ = some (.slice none 0 0) := (hb2.cell (p := ⟨w.heap.size, 0, none⟩) hz).trans r0
      have t1 : w2.cell? ⟨w.heap.size, 1, none⟩ = some (.slice none 0 0) := (hb2.cell (p := ⟨w.heap.size, 1, none⟩) hz).trans r1
      have t2 : w2.cell? ⟨w.heap.size, 2, none⟩ = some (.slice none 0 0) := (hb2.cell (p := ⟨w.heap.size, 2, none⟩) hz).trans r2
      have t3 : ∀ o, w2.frozen? ⟨w.heap.size, o, none⟩ = false := fun o => (hb2.frozen (p := ⟨w.heap.size, o, none⟩) hz).trans (f0 o)
      have HB3 := Lib.hid hb3
      clear r0 r1 r2 f0 hb2 hb3
      cases hok : okK x
      · go_wp2_with fail
        refine bodyPost_ret (v := .tuple #[.agg #[.slice none 0 0, .slice none 0 0, .slice none 0 0], .int .i64 1]) (by simp [results, Try.results12, go_sem, t0, t1, t2]) rfl ⟨⟨_, by unfold buildE; rw [all_not HX.out hok]; rfl, ?_⟩, ?_⟩
        · unfold buildIx; rw [all_not HX.out hok]; exact IxAt.empty _ _
        · exact ((bStart (HB3.out.mono (by simp))).setCell (Nat.le_refl _) _).setCell (Nat.le_refl _) _ |>.setCell (Nat.le_refl _) _
      · go_wp2_with fail
        exact ⟨⟨j + 1, by omega, by go_num, HB3.out, all_next HA.out HX.out hok⟩, by simp [intOf]; omega⟩
    · have hjn : j = n := by omega
      subst hjn
      have hall' : ks.all okK = true := by rwa [List.take_of_length_le (by omega)] at hall
      have HB := Lib.hid hb
      have HA := Lib.hid hall'
      have hb1 := ha.below hbw
      clear hall hall' hb
      by_cases h5 : j ≤ 500
      · go_wp2_with fail
        refine (of_any A j c ks _ (by omega) (hb1.more hbw.size)).mono ?_
        rintro e w2 ⟨⟨v, rfl, hv⟩, hb2⟩
        have hres : w2.heap[w.heap.size]? = some (.cells #[.slice none 0 0, .slice none 0 0, .slice none 0 0] 26 (0, 0)) := (hb2.block _ hz).trans ((HB.out.block _ (by omega)).trans (heap_alloc_new w _))
        have hni : ∀ o x, w2.cell? ⟨w.heap.size, o, none⟩ ≠ some (.int .i64 x) := fun o x => by
          rw [cell_of_row w2 w.heap.size o _ _ _ hres]
          match o with
          | 0 => simp
          | 1 => simp
          | 2 => simp
          | o + 3 => simp
        have t0 : w2.cell? ⟨w.heap.size, 0, none⟩ = some (.slice none 0 0) := (hb2.cell (p := ⟨w.heap.size, 0, none⟩) hz).trans r0
        have t1 : w2.cell? ⟨w.heap.size, 1, none⟩ = some (.slice none 0 0) := (hb2.cell (p := ⟨w.heap.size, 1, none⟩) hz).trans r1
        have t2 : w2.cell? ⟨w.heap.size, 2, none⟩ = some (.slice none 0 0) := (hb2.cell (p := ⟨w.heap.size, 2, none⟩) hz).trans r2
        have t3 : ∀ o, w2.frozen? ⟨w.heap.size, o, none⟩ = false := fun o => (hb2.frozen (p := ⟨w.heap.size, o, none⟩) hz).trans (f0 o)
        have hb3 : Below w.heap.size w w2 := bNext hbw hb2
        have HV := Lib.hid hv
        have HB3 := Lib.hid hb3
        have HN := Lib.hid hni
        obtain ⟨A0, c0, A1, c1, A2, c2, rfl, _⟩ := hv
        clear r0 r1 r2 f0 hb2 hb3 hni hres
        go_wp2_with fail
        refine bodyPost_ret (v := .tuple #[.agg #[.slice A0 (listTo ks zeroK j).length c0, .slice A1 ((nubTo ks j).map fun x => (x, listTo ks x j)).length c1, .slice A2 (restTo ks j).length c2], .int .i64 0]) (by simp [results, Try.results12, go_sem, t0, t1, t2]) rfl ⟨⟨_, by unfold buildE; rw [HA.out, if_pos rfl, if_pos (by omega)], ?_⟩, ?_⟩
        · have e : buildIx ks = ⟨listTo ks zeroK j, (nubTo ks j).map fun x => (x, listTo ks x j), restTo ks j⟩ := by
            unfold buildIx; rw [HA.out, hnl, decide_eq_true h5]; simp [ixOf, hnl]
          rw [e]
          refine (HV.out.apart HN.out fun b hb => ?_).more (by simp [World.setCell])
          rw [heap_setCell_other _ _ _ _ hb, heap_setCell_other _ _ _ _ hb, heap_setCell_other _ _ _ _ hb]
        · exact ((HB3.out.setCell (Nat.le_refl _) _).setCell (Nat.le_refl _) _).setCell (Nat.le_refl _) _
      · go_wp2_with fail
        refine bodyPost_ret (v := .tuple #[.agg #[.slice none 0 0, .slice none 0 0, .slice none 0 0], .int .i64 2]) (by simp [results, Try.results12, go_sem, r0, r1, r2]) rfl ⟨⟨_, by unfold buildE; rw [HA.out, if_pos rfl, if_neg (by omega)], ?_⟩, ?_⟩
        · unfold buildIx; rw [HA.out, hnl, decide_eq_false h5]; exact IxAt.empty _ _
        · exact ((bStart (HB.out.mono (by simp))).setCell (Nat.le_refl _) _).setCell (Nat.le_refl _) _ |>.setCell (Nat.le_refl _) _
end Go.Proofs.Ytpkpdjekoghkcaa
