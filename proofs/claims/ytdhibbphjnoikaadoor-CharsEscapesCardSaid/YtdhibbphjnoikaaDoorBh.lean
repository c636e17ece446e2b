/-
  The walks of Set where an argument is not valid, and of the reference's Set.
-/
import Derived.Test.YtdhibbphjnoikaaDoorBg
namespace Go.Proofs.YtdhibbphjnoikaaDoor
open Go.RowKit
set_option maxHeartbeats 1000000 in
theorem set_bad (A : Option Addr) (n c : Nat) (l : Tab) (a b : Int) (w : World) (h : PairsAt w w.heap.size A n l) (hs : setC l a b = false) :
    Calls Tryd.prog 14 #[.slice A n c, .int .i64 a, .int .i64 b] w fun e w' => e = .returned (.tuple #[.slice none 0 0, .int .i64 1]) ∧ Below w.heap.size w w' := by
  have HA := Lib.hid h
  have HS := Lib.hid hs
  clear h hs
  go_enter Tryd.func14, Tryd.ntmps14
  go_wp2_with fail
  refine (valid_any A n c l _ HA.out).mono ?_
  rintro e w1 ⟨rfl, hb1⟩
  have HB1 := Lib.hid hb1
  clear hb1
  cases hv : vld l
  · go_wp2_with fail
    go_ret2
    exact ⟨rfl, HB1.out⟩
  go_wp2_with fail
  refine (is_any a _).mono ?_
  rintro e w2 ⟨rfl, rfl⟩
  cases ha : chr a
  · go_wp2_with fail
    go_ret2
    exact ⟨rfl, HB1.out⟩
  go_wp2_with fail
  refine (is_any b _).mono ?_
  rintro e w2 ⟨rfl, rfl⟩
  cases hb : chr b
  · go_wp2_with fail
    go_ret2
    exact ⟨rfl, HB1.out⟩
  · exfalso
    have := HS.out
    unfold setC at this
    rw [hv, ha, hb] at this
    cases this
set_option maxHeartbeats 1000000 in
theorem rset_bad (A : Option Addr) (n c : Nat) (l : Tab) (a b : Int) (w : World) (h : PairsAt w w.heap.size A n l) (hs : setC l a b = false) :
    Calls Tryd.prog 15 #[.slice A n c, .int .i64 a, .int .i64 b] w fun e w' => e = .returned (.tuple #[.slice none 0 0, .int .i64 1]) ∧ Below w.heap.size w w' := by
  have HA := Lib.hid h
  have HS := Lib.hid hs
  clear h hs
  go_enter Tryd.func15, Tryd.ntmps15
  go_wp2_with fail
  refine (rvalid_any A n c l _ HA.out).mono ?_
  rintro e w1 ⟨rfl, hb1⟩
  have HB1 := Lib.hid hb1
  clear hb1
  cases hv : vld l
  · go_wp2_with fail
    go_ret2
    exact ⟨rfl, HB1.out⟩
  go_wp2_with fail
  refine (ris_any a _).mono ?_
  rintro e w2 ⟨rfl, rfl⟩
  cases ha : chr a
  · go_wp2_with fail
    go_ret2
    exact ⟨rfl, HB1.out⟩
  go_wp2_with fail
  refine (ris_any b _).mono ?_
  rintro e w2 ⟨rfl, rfl⟩
  cases hb : chr b
  · go_wp2_with fail
    go_ret2
    exact ⟨rfl, HB1.out⟩
  · exfalso
    have := HS.out
    unfold setC at this
    rw [hv, ha, hb] at this
    cases this
theorem lst_snoc (f : Int → Int) : ∀ (k : Nat) (lo : Int), lst f lo (k + 1) = lst f lo k ++ (if f (lo + k) ≠ lo + k then [(lo + k, f (lo + k))] else [])
  | 0, lo => by
    show (if f lo ≠ lo then [(lo, f lo)] else []) ++ [] = [] ++ _
    rw [show lo + ((0 : Nat) : Int) = lo by omega, List.append_nil, List.nil_append]
  | k + 1, lo => by
    rw [show lst f lo (k + 1 + 1) = (if f lo ≠ lo then [(lo, f lo)] else []) ++ lst f (lo + 1) (k + 1) from rfl, lst_snoc f k (lo + 1)]
    rw [show lst f lo (k + 1) = (if f lo ≠ lo then [(lo, f lo)] else []) ++ lst f (lo + 1) k from rfl, List.append_assoc]
    rw [show lo + 1 + (k : Int) = lo + ((k + 1 : Nat) : Int) by omega]
theorem lst_len (f : Int → Int) : ∀ (k : Nat) (lo : Int), (lst f lo k).length ≤ k
  | 0, _ => Nat.le_refl _
  | k + 1, lo => by
    unfold lst
    rw [List.length_append]
    have := lst_len f k (lo + 1)
    split <;> simp <;> omega
set_option maxHeartbeats 1000000 in
theorem rset_ok (A : Option Addr) (n c : Nat) (l : Tab) (a b : Int) (w : World) (h : PairsAt w w.heap.size A n l) (hv : vld l = true) (ha : chr a = true) (hb : chr b = true) :
    Calls Tryd.prog 15 #[.slice A n c, .int .i64 a, .int .i64 b] w fun e w' => (∃ v, e = .returned (.tuple #[v, .int .i64 0]) ∧ SlAt w' v (setT l a b)) ∧ Below w.heap.size w w' := by
  have HA := Lib.hid h
  have HV := Lib.hid hv
  have HF : Hid (∀ k : Nat, k < 256 → cv l (k : Int) = conv l k) := Lib.hid fun k hk => cv_ok hv (by rw [chr_iff]; omega)
  clear h
  go_enter Tryd.func15, Tryd.ntmps15
  go_wp2_with fail
  refine (rvalid_any A n c l _ HA.out).mono ?_
  rintro e w1 ⟨rfl, hb1⟩
  have HB1 := Lib.hid hb1
  clear hb1
  go_wp2_with fail
  refine (ris_any a _).mono ?_
  rintro e w2 ⟨rfl, rfl⟩
  go_wp2_with fail
  refine (ris_any b _).mono ?_
  rintro e w2 ⟨rfl, rfl⟩
  go_wp2_with fail
  clear hv ha hb
  go_loopw [8, 9] (fun v i wr => ∃ k : Nat, k ≤ 256 ∧ i = .int .i64 (k : Int) ∧ Hid (wr.ownsRow w.heap.size 41 2 v (lst (upd l a b) 0 k).length (pairCs (lst (upd l a b) 0 k))) ∧ Hid (Below w.heap.size w wr)) (fun _ i _ => 256 - (intOf i).toNat)
  case atStart => exact ⟨0, by omega, rfl, Lib.hid (World.ownsRow_nil _ _ _ _), HB1⟩
  case round =>
    obtain ⟨k, hk, rfl, HO, HW⟩ := hrel
    by_cases hlt : k < 256
    · have hle : (k : Int) ≤ 255 := by omega
      go_wp2_with fail
      refine (rconvert_any A n c l k _ ((HA.out.below HW.out).more HW.out.size)).mono ?_
      rintro e w2 ⟨rfl, hb2⟩
      have HB2 := Lib.hid (bNext HW.out hb2)
      have HO2 := Lib.hid (own_below HO.out hb2)
      have hsz := hb2.size
      rw [HF.out k hlt]
      have HSN := Lib.hid (lst_snoc (upd l a b) k 0)
      have HLN := Lib.hid (lst_len (upd l a b) k 0)
      rw [show (0 : Int) + (k : Int) = k by omega] at HSN
      clear hb2 HB1
      by_cases hca : (k : Int) = a
      · have hc2 : ((k : Int) == a) = true := by simpa using hca
        have HU := Lib.hid (show upd l a b (k : Int) = b by unfold upd; rw [if_pos hca])
        rw [HU.out] at HSN
        clear hca HU
        by_cases hne : b = (k : Int)
        · have hn2 : (b != (k : Int)) = false := by simpa using hne
          have HSN2 := Lib.hid (show lst (upd l a b) 0 (k + 1) = lst (upd l a b) 0 k by rw [HSN.out, if_neg (by simpa using hne), List.append_nil])
          clear hne
          go_wp2_with fail
          exact ⟨⟨k + 1, by omega, by go_num, Lib.hid (by rw [HSN2.out]; exact HO2.out), HB2⟩, by simp [intOf]; omega⟩
        · have hn2 : (b != (k : Int)) = true := by simpa using hne
          have HSN2 := Lib.hid (show lst (upd l a b) 0 (k + 1) = lst (upd l a b) 0 k ++ [((k : Int), b)] by rw [HSN.out, if_pos hne])
          clear hne
          go_wp2_with (at_builtin; refine wpList_append_pairs rfl _ _ rfl w.heap.size _ (lst (upd l a b) 0 k).length _ rfl (HO2.out.alloc _) (some ⟨w2.heap.size, 0, none⟩) 1 1 (w2.heap.size + 1) [((k : Int), b)] rfl (fun e => by cases e) (pairs_new _ _ _) ?c1 ?c2 ?_)
          case c1 => have := HLN.out; omega
          case c2 => have := HB2.out.size; simp; omega
          intro v3 w3 ho3 hg3
          have hb3 : Below w.heap.size w w3 := bGrown (HB2.out.alloc HB2.out.size _) (HO2.out.alloc _) hg3 (by have := HB2.out.size; simp; omega) (Nat.le_refl _)
          have HB3 := Lib.hid hb3
          have HO3 := Lib.hid (show w3.ownsRow w.heap.size 41 2 v3 (lst (upd l a b) 0 (k + 1)).length (pairCs (lst (upd l a b) 0 (k + 1))) by
            rw [HSN2.out, pairCs_app, List.length_append]; exact ho3)
          clear hb3 ho3 hg3
          go_wp2_with fail
          exact ⟨⟨k + 1, by omega, by go_num, HO3, HB3⟩, by simp [intOf]; omega⟩
      · have hc2 : ((k : Int) == a) = false := by simpa using hca
        generalize hx : conv l (k : Int) = x at *
        have HX := Lib.hid hx
        clear hx
        have HU := Lib.hid (show upd l a b (k : Int) = x by unfold upd; rw [if_neg hca, HX.out])
        rw [HU.out] at HSN
        clear hca HU
        by_cases hne : x = (k : Int)
        · have hn2 : (x != (k : Int)) = false := by simpa using hne
          have HSN2 := Lib.hid (show lst (upd l a b) 0 (k + 1) = lst (upd l a b) 0 k by rw [HSN.out, if_neg (by simpa using hne), List.append_nil])
          clear hne
          go_wp2_with fail
          exact ⟨⟨k + 1, by omega, by go_num, Lib.hid (by rw [HSN2.out]; exact HO2.out), HB2⟩, by simp [intOf]; omega⟩
        · have hn2 : (x != (k : Int)) = true := by simpa using hne
          have HSN2 := Lib.hid (show lst (upd l a b) 0 (k + 1) = lst (upd l a b) 0 k ++ [((k : Int), x)] by rw [HSN.out, if_pos hne])
          clear hne
          go_wp2_with (at_builtin; refine wpList_append_pairs rfl _ _ rfl w.heap.size _ (lst (upd l a b) 0 k).length _ rfl (HO2.out.alloc _) (some ⟨w2.heap.size, 0, none⟩) 1 1 (w2.heap.size + 1) [((k : Int), x)] rfl (fun e => by cases e) (pairs_new _ _ _) ?c1 ?c2 ?_)
          case c1 => have := HLN.out; omega
          case c2 => have := HB2.out.size; simp; omega
          intro v3 w3 ho3 hg3
          have hb3 : Below w.heap.size w w3 := bGrown (HB2.out.alloc HB2.out.size _) (HO2.out.alloc _) hg3 (by have := HB2.out.size; simp; omega) (Nat.le_refl _)
          have HB3 := Lib.hid hb3
          have HO3 := Lib.hid (show w3.ownsRow w.heap.size 41 2 v3 (lst (upd l a b) 0 (k + 1)).length (pairCs (lst (upd l a b) 0 (k + 1))) by
            rw [HSN2.out, pairCs_app, List.length_append]; exact ho3)
          clear hb3 ho3 hg3
          go_wp2_with fail
          exact ⟨⟨k + 1, by omega, by go_num, HO3, HB3⟩, by simp [intOf]; omega⟩
    · obtain rfl : k = 256 := by omega
      have hs := SlAt.own HO.out (by have := lst_len (upd l a b) 256 0; omega)
      have HS := Lib.hid hs
      obtain ⟨A2, c2, e2, h2⟩ := HO.out.2 |> fun _ => hs
      subst e2
      clear hs h2
      go_wp2_with fail
      go_ret2
      exact ⟨⟨_, rfl, HS.out⟩, HW.out⟩
end Go.Proofs.YtdhibbphjnoikaaDoor
