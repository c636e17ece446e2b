/-
  The walk of the law IndexExclusive.
-/
import Derived.Test.YtpkpdjekoghkcaaWq
namespace Go.Proofs.Ytpkpdjekoghkcaa
open Go.RowKit

/-- how many of the first j keys are a variable's -/
def varsTo (L : List K) (j : Nat) : Nat := (restTo L j).length
/-- no key that is not a variable's is matched by two clauses, as the law counts it -/
def lonTo (L : List K) (j : Nat) : Bool := (L.take j).all fun x => K.eqv x zeroK || decide ((listTo L x L.length).length ≤ 1)
theorem lon_next {L : List K} {j : Nat} {x : K} (hx : L[j]? = some x) : lonTo L (j + 1) = (lonTo L j && (K.eqv x zeroK || decide ((listTo L x L.length).length ≤ 1))) := by
  unfold lonTo; rw [List.take_add_one, hx, List.all_append]; simp
theorem zero_kind {x : K} (hx : okK x = true) : K.eqv x zeroK = (x.kind == 0) := by
  rw [Bool.eq_iff_iff, K.eqv_iff]
  constructor
  · rintro rfl; rfl
  · intro h; exact okK_zero hx (by simpa using h)
theorem ex_ixOf {L : List K} (hA : L.all okK = true) : exIx true (ixOf L) = (decide (varsTo L L.length ≤ 1) && lonTo L L.length) := by
  unfold exIx
  rw [Bool.true_and]
  congr 1
  rw [Bool.eq_iff_iff, List.all_eq_true]
  unfold lonTo
  rw [List.all_eq_true, List.take_length]
  constructor
  · intro h x hx
    rw [zero_kind (List.all_eq_true.1 hA x hx)]
    by_cases h0 : x.kind = 0
    · simp [h0]
    · have := h (x, listTo L x L.length) (by
        simp only [ixOf, List.mem_map]
        exact ⟨x, (nubTo_mem L x _).2 ⟨h0, by rw [List.take_length]; exact hx⟩, rfl⟩)
      rw [this, Bool.or_true]
  · intro h r hr
    simp only [ixOf, List.mem_map] at hr
    obtain ⟨y, hy, rfl⟩ := hr
    obtain ⟨h0, hm⟩ := (nubTo_mem L y _).1 hy
    rw [List.take_length] at hm
    have := h y hm
    rw [zero_kind (List.all_eq_true.1 hA y hm)] at this
    simpa [h0] using this

set_option maxRecDepth 100000 in
set_option maxHeartbeats 2000000 in
theorem law7_any (A : Option Addr) (n c : Nat) (hcap : n ≤ c) (ks : List K) (w : World) (ha : KeysAt w w.heap.size A n ks) :
    Calls Try.prog 7 #[.slice A n c] w fun e w' => e = .returned (.bool true) ∧ Below w.heap.size w w' := by
  have n48 := ha.1.2
  have he := key_eql
  have he2 := key_neq
  go_enter Try.func7, Try.ntmps7
  go_wp2_with fail
  · obtain ⟨L, hL⟩ : ∃ L, KeysAt w w.heap.size A 500 L := ⟨_, ha.take (by omega)⟩
    have hM5 : 500 ≤ 500 := by omega
    have hll : L.length = 500 := hL.1.1
    refine (Build_any A 500 c L _ hL).mono ?_
    rintro e w3 ⟨⟨v, rfl, hv⟩, hb3⟩
    have hv0 := hv
    obtain ⟨A0, c0, A1, c1, A2, c2, rfl, -, -, -⟩ := hv
    obtain ⟨V, HV⟩ : ∃ V, Hid (V = w3.alloc (.cells #[.slice A0 (buildIx L).all.length c0, .slice A1 (buildIx L).rows.length c1, .slice A2 (buildIx L).rest.length c2] 26)) := ⟨_, rfl⟩
    obtain ⟨N, HN⟩ : ∃ N, Hid (N = w3.heap.size) := ⟨_, rfl⟩
    have hbV3 : Below w3.heap.size w3 V := by rw [HV.out]; exact bAlloc _ _
    have hbV : Below w.heap.size w V := bNext hb3 hbV3
    have qx : Blk V N 26 #[.slice A0 (buildIx L).all.length c0, .slice A1 (buildIx L).rows.length c1, .slice A2 (buildIx L).rest.length c2] := by rw [HV.out, HN.out]; exact Blk.new _ _ _
    have hix := (hv0.below hbV3).more hbV3.size
    have hLV := (hL.below hbV).more hbV.size
    have HBV := Lib.hid hbV
    have HIX := Lib.hid hix
    have HLV := Lib.hid hLV
    clear hv0 hb3 hbV3 hbV hix hLV hL ha
    cases hA : L.all okK
    · have e1 : buildE L = 1 := by unfold buildE; rw [hA]; rfl
      have e2 : buildIx L = ⟨[], [], []⟩ := by unfold buildIx; rw [hA]; rfl
      rw [e1]
      have HE := Lib.hid e2
      clear e1 e2
      obtain ⟨X, HX⟩ : ∃ X, Hid (X = buildIx L) := ⟨_, rfl⟩
      rw [← HX.out] at HIX HV HE ⊢
      clear qx
      go_wp2_with fail
      rw [← HV.out]
      refine (Exclusive_any _ X _ HIX.out).mono ?_
      rintro e w4 ⟨rfl, hb4⟩
      rw [HE.out, show exIx (validIx ⟨[], [], []⟩) ⟨[], [], []⟩ = true from by kernel_rfl]
      have HB4 := Lib.hid hb4
      clear hb4
      go_wp2_with fail
      refine (example_any _).mono ?_
      rintro e w5 ⟨rfl, hb5⟩
      have HB5 := Lib.hid hb5
      clear hb5
      go_wp2_with fail
      go_ret
      exact ⟨rfl, bNext HBV.out (bNext HB4.out HB5.out)⟩
    · have e1 : buildE L = 0 := by unfold buildE; rw [hA, if_pos rfl, if_pos (by omega)]
      have e2 : buildIx L = ixOf L := by unfold buildIx; rw [hA, decide_eq_true (by omega : L.length ≤ 500)]; rfl
      rw [e1]
      have HE := Lib.hid e2
      have HA := Lib.hid hA
      clear e1 e2 hA
      obtain ⟨X, HX⟩ : ∃ X, Hid (X = buildIx L) := ⟨_, rfl⟩
      rw [← HX.out] at qx HIX HV HE ⊢
      go_wp2_with fail
      rw [← HV.out, ← HN.out]
      go_loopw [5, 6] (fun v i wr => ∃ j : Nat, j ≤ 500 ∧ i = .int .i64 (j : Int) ∧ v = .int .i64 (varsTo L j : Int) ∧ Below V.heap.size V wr) (fun _ i _ => 500 - (intOf i).toNat)
      case atStart => exact ⟨0, by omega, rfl, rfl, Below.refl _ _⟩
      case round =>
        obtain ⟨j, hj, rfl, rfl, hb⟩ := hrel
        have hvl : varsTo L j ≤ j := restTo_len L j
        have HB := Lib.hid hb
        by_cases hlt : j < 500
        · obtain ⟨b, off, x, rfl, hB, hx, hx4⟩ := (HLV.out.below hb).at hlt
          obtain ⟨h1, h2, h3, h4⟩ := hx4.four
          have HX2 := Lib.hid hx
          have HZ := Lib.hid (zero_kind (List.all_eq_true.1 HA.out x (List.mem_of_getElem? hx)))
          clear hb hx hx4
          cases e1 : eqK x.kind x.n x.name x.ar 0 0 { data := #[] } 0
          · have hz : (x.kind == 0) = false := by rw [← HZ.out]; exact e1
            have HK := Lib.hid hz
            clear hz
            go_wp2_with fail
            exact ⟨⟨j + 1, by omega, by go_num, by unfold varsTo; rw [restTo_no HX2.out HK.out], HB.out⟩, by simp [intOf]; omega⟩
          · have hz : (x.kind == 0) = true := by rw [← HZ.out]; exact e1
            have HK := Lib.hid hz
            clear hz
            go_wp2_with fail
            exact ⟨⟨j + 1, by omega, by go_num, by unfold varsTo; rw [restTo_yes HX2.out HK.out, List.length_append]; simp, HB.out⟩, by simp [intOf]; omega⟩
        · have HJM := Lib.hid (by omega : j = 500)
          clear hb
          go_wp2_with fail
          obtain ⟨wo, rfl⟩ : ∃ wo : World, wo = wr := ⟨_, rfl⟩
          go_loopw [7, 8] (fun v i wr => ∃ q : Nat, q ≤ 500 ∧ i = .int .i64 (q : Int) ∧ v = .bool (decide (varsTo L j ≤ 1) && lonTo L q) ∧ Below V.heap.size V wr) (fun _ i _ => 500 - (intOf i).toNat)
          case atStart => exact ⟨0, by omega, rfl, by simp [lonTo]; omega, HB.out⟩
          case round =>
            obtain ⟨q, hq, rfl, rfl, hb⟩ := hrel
            have HB2 := Lib.hid hb
            by_cases hlt2 : q < 500
            · obtain ⟨b, off, x, rfl, hB, hx, hx4⟩ := (HLV.out.below hb).at hlt2
              obtain ⟨h1, h2, h3, h4⟩ := hx4.four
              have HX2 := Lib.hid hx
              have HL2 := Lib.hid ((HLV.out.below hb).more hb.size)
              have HN2 := Lib.hid (lon_next hx)
              clear hb hx hx4
              cases e1 : eqK x.kind x.n x.name x.ar 0 0 { data := #[] } 0
              · have HE1 := Lib.hid e1
                go_wp2_with fail
                refine (list_any (some ⟨b, off, none⟩) 500 c L x _ (by omega) HL2.out).mono ?_
                rintro e w4 ⟨⟨v, rfl, hv4⟩, hb4⟩
                obtain ⟨A4, c4, rfl⟩ := own_form hv4
                have hl4 := listTo_len L x 500
                have HB4 := Lib.hid (bNext HB2.out hb4)
                clear hv4 hb4 h1 h2 h3 h4
                by_cases hlen : (listTo L x 500).length ≤ 1
                · have HLE := Lib.hid hlen
                  go_wp2_with fail
                  exact ⟨⟨q + 1, by omega, by go_num, by rw [HN2.out, hll, decide_eq_true HLE.out, Bool.or_true, Bool.and_true], HB4.out⟩, by simp [intOf]; omega⟩
                · have HLE := Lib.hid hlen
                  go_wp2_with fail
                  exact ⟨⟨q + 1, by omega, by go_num, by rw [HN2.out, hll, decide_eq_false HLE.out, Bool.or_false, show K.eqv x zeroK = false from HE1.out, Bool.and_false, Bool.and_false], HB4.out⟩, by simp [intOf]; omega⟩
              · have HE1 := Lib.hid e1
                go_wp2_with fail
                exact ⟨⟨q + 1, by omega, by go_num, by rw [HN2.out, show K.eqv x zeroK = true from HE1.out, Bool.true_or, Bool.and_true], HB2.out⟩, by simp [intOf]; omega⟩
            · have HQM := Lib.hid (by omega : q = 500)
              have qx' := qx.below hb qx.lt
              have x0 : wr.cell? ⟨N, 0, none⟩ = some (.slice A0 X.all.length c0) := by rw [qx'.cell]; rfl
              have x1 : wr.cell? ⟨N, 1, none⟩ = some (.slice A1 X.rows.length c1) := by rw [qx'.cell]; rfl
              have x2 : wr.cell? ⟨N, 2, none⟩ = some (.slice A2 X.rest.length c2) := by rw [qx'.cell]; rfl
              have HIX2 := Lib.hid ((HIX.out.below hb).more hb.size)
              clear hb qx'
              go_wp2_with fail
              refine (Exclusive_any _ X _ HIX2.out).mono ?_
              rintro e w4 ⟨rfl, hb4⟩
              have hex : exIx (validIx X) X = (decide (varsTo L j ≤ 1) && lonTo L q) := by
                rw [HE.out, valid_of_good ⟨L, HA.out, by omega, rfl⟩, ex_ixOf HA.out, hll, HJM.out, HQM.out]
              rw [hex]
              have HB4 := Lib.hid hb4
              clear hb4 hex
              obtain ⟨b, Hb⟩ : ∃ b, Hid (b = (decide (varsTo L j ≤ 1) && lonTo L q)) := ⟨_, rfl⟩
              rw [← Hb.out]
              go_wp2_with fail
              refine (example_any _).mono ?_
              rintro e w5 ⟨rfl, hb5⟩
              have HB5 := Lib.hid hb5
              clear hb5
              go_wp2_with fail
              go_ret
              exact ⟨rfl, bNext HBV.out (bNext HB2.out (bNext HB4.out HB5.out))⟩
  · obtain ⟨L, hL⟩ : ∃ L, KeysAt w w.heap.size A n L := ⟨_, ha.take (by omega)⟩
    have hM5 : n ≤ 500 := by omega
    have hll : L.length = n := hL.1.1
    refine (Build_any A n c L _ hL).mono ?_
    rintro e w3 ⟨⟨v, rfl, hv⟩, hb3⟩
    have hv0 := hv
    obtain ⟨A0, c0, A1, c1, A2, c2, rfl, -, -, -⟩ := hv
    obtain ⟨V, HV⟩ : ∃ V, Hid (V = w3.alloc (.cells #[.slice A0 (buildIx L).all.length c0, .slice A1 (buildIx L).rows.length c1, .slice A2 (buildIx L).rest.length c2] 26)) := ⟨_, rfl⟩
    obtain ⟨N, HN⟩ : ∃ N, Hid (N = w3.heap.size) := ⟨_, rfl⟩
    have hbV3 : Below w3.heap.size w3 V := by rw [HV.out]; exact bAlloc _ _
    have hbV : Below w.heap.size w V := bNext hb3 hbV3
    have qx : Blk V N 26 #[.slice A0 (buildIx L).all.length c0, .slice A1 (buildIx L).rows.length c1, .slice A2 (buildIx L).rest.length c2] := by rw [HV.out, HN.out]; exact Blk.new _ _ _
    have hix := (hv0.below hbV3).more hbV3.size
    have hLV := (hL.below hbV).more hbV.size
    have HBV := Lib.hid hbV
    have HIX := Lib.hid hix
    have HLV := Lib.hid hLV
    clear hv0 hb3 hbV3 hbV hix hLV hL ha
    cases hA : L.all okK
    · have e1 : buildE L = 1 := by unfold buildE; rw [hA]; rfl
      have e2 : buildIx L = ⟨[], [], []⟩ := by unfold buildIx; rw [hA]; rfl
      rw [e1]
      have HE := Lib.hid e2
      clear e1 e2
      obtain ⟨X, HX⟩ : ∃ X, Hid (X = buildIx L) := ⟨_, rfl⟩
      rw [← HX.out] at HIX HV HE ⊢
      clear qx
      go_wp2_with fail
      rw [← HV.out]
      refine (Exclusive_any _ X _ HIX.out).mono ?_
      rintro e w4 ⟨rfl, hb4⟩
      rw [HE.out, show exIx (validIx ⟨[], [], []⟩) ⟨[], [], []⟩ = true from by kernel_rfl]
      have HB4 := Lib.hid hb4
      clear hb4
      go_wp2_with fail
      refine (example_any _).mono ?_
      rintro e w5 ⟨rfl, hb5⟩
      have HB5 := Lib.hid hb5
      clear hb5
      go_wp2_with fail
      go_ret
      exact ⟨rfl, bNext HBV.out (bNext HB4.out HB5.out)⟩
    · have e1 : buildE L = 0 := by unfold buildE; rw [hA, if_pos rfl, if_pos (by omega)]
      have e2 : buildIx L = ixOf L := by unfold buildIx; rw [hA, decide_eq_true (by omega : L.length ≤ 500)]; rfl
      rw [e1]
      have HE := Lib.hid e2
      have HA := Lib.hid hA
      clear e1 e2 hA
      obtain ⟨X, HX⟩ : ∃ X, Hid (X = buildIx L) := ⟨_, rfl⟩
      rw [← HX.out] at qx HIX HV HE ⊢
      go_wp2_with fail
      rw [← HV.out, ← HN.out]
      go_loopw [5, 6] (fun v i wr => ∃ j : Nat, j ≤ n ∧ i = .int .i64 (j : Int) ∧ v = .int .i64 (varsTo L j : Int) ∧ Below V.heap.size V wr) (fun _ i _ => n - (intOf i).toNat)
      case atStart => exact ⟨0, by omega, rfl, rfl, Below.refl _ _⟩
      case round =>
        obtain ⟨j, hj, rfl, rfl, hb⟩ := hrel
        have hvl : varsTo L j ≤ j := restTo_len L j
        have HB := Lib.hid hb
        by_cases hlt : j < n
        · obtain ⟨b, off, x, rfl, hB, hx, hx4⟩ := (HLV.out.below hb).at hlt
          obtain ⟨h1, h2, h3, h4⟩ := hx4.four
          have HX2 := Lib.hid hx
          have HZ := Lib.hid (zero_kind (List.all_eq_true.1 HA.out x (List.mem_of_getElem? hx)))
          clear hb hx hx4
          cases e1 : eqK x.kind x.n x.name x.ar 0 0 { data := #[] } 0
          · have hz : (x.kind == 0) = false := by rw [← HZ.out]; exact e1
            have HK := Lib.hid hz
            clear hz
            go_wp2_with fail
            exact ⟨⟨j + 1, by omega, by go_num, by unfold varsTo; rw [restTo_no HX2.out HK.out], HB.out⟩, by simp [intOf]; omega⟩
          · have hz : (x.kind == 0) = true := by rw [← HZ.out]; exact e1
            have HK := Lib.hid hz
            clear hz
            go_wp2_with fail
            exact ⟨⟨j + 1, by omega, by go_num, by unfold varsTo; rw [restTo_yes HX2.out HK.out, List.length_append]; simp, HB.out⟩, by simp [intOf]; omega⟩
        · have HJM := Lib.hid (by omega : j = n)
          clear hb
          go_wp2_with fail
          obtain ⟨wo, rfl⟩ : ∃ wo : World, wo = wr := ⟨_, rfl⟩
          go_loopw [7, 8] (fun v i wr => ∃ q : Nat, q ≤ n ∧ i = .int .i64 (q : Int) ∧ v = .bool (decide (varsTo L j ≤ 1) && lonTo L q) ∧ Below V.heap.size V wr) (fun _ i _ => n - (intOf i).toNat)
          case atStart => exact ⟨0, by omega, rfl, by simp [lonTo]; omega, HB.out⟩
          case round =>
            obtain ⟨q, hq, rfl, rfl, hb⟩ := hrel
            have HB2 := Lib.hid hb
            by_cases hlt2 : q < n
            · obtain ⟨b, off, x, rfl, hB, hx, hx4⟩ := (HLV.out.below hb).at hlt2
              obtain ⟨h1, h2, h3, h4⟩ := hx4.four
              have HX2 := Lib.hid hx
              have HL2 := Lib.hid ((HLV.out.below hb).more hb.size)
              have HN2 := Lib.hid (lon_next hx)
              clear hb hx hx4
              cases e1 : eqK x.kind x.n x.name x.ar 0 0 { data := #[] } 0
              · have HE1 := Lib.hid e1
                go_wp2_with fail
                refine (list_any (some ⟨b, off, none⟩) n c L x _ (by omega) HL2.out).mono ?_
                rintro e w4 ⟨⟨v, rfl, hv4⟩, hb4⟩
                obtain ⟨A4, c4, rfl⟩ := own_form hv4
                have hl4 := listTo_len L x n
                have HB4 := Lib.hid (bNext HB2.out hb4)
                clear hv4 hb4 h1 h2 h3 h4
                by_cases hlen : (listTo L x n).length ≤ 1
                · have HLE := Lib.hid hlen
                  go_wp2_with fail
                  exact ⟨⟨q + 1, by omega, by go_num, by rw [HN2.out, hll, decide_eq_true HLE.out, Bool.or_true, Bool.and_true], HB4.out⟩, by simp [intOf]; omega⟩
                · have HLE := Lib.hid hlen
                  go_wp2_with fail
                  exact ⟨⟨q + 1, by omega, by go_num, by rw [HN2.out, hll, decide_eq_false HLE.out, Bool.or_false, show K.eqv x zeroK = false from HE1.out, Bool.and_false, Bool.and_false], HB4.out⟩, by simp [intOf]; omega⟩
              · have HE1 := Lib.hid e1
                go_wp2_with fail
                exact ⟨⟨q + 1, by omega, by go_num, by rw [HN2.out, show K.eqv x zeroK = true from HE1.out, Bool.true_or, Bool.and_true], HB2.out⟩, by simp [intOf]; omega⟩
            · have HQM := Lib.hid (by omega : q = n)
              have qx' := qx.below hb qx.lt
              have x0 : wr.cell? ⟨N, 0, none⟩ = some (.slice A0 X.all.length c0) := by rw [qx'.cell]; rfl
              have x1 : wr.cell? ⟨N, 1, none⟩ = some (.slice A1 X.rows.length c1) := by rw [qx'.cell]; rfl
              have x2 : wr.cell? ⟨N, 2, none⟩ = some (.slice A2 X.rest.length c2) := by rw [qx'.cell]; rfl
              have HIX2 := Lib.hid ((HIX.out.below hb).more hb.size)
              clear hb qx'
              go_wp2_with fail
              refine (Exclusive_any _ X _ HIX2.out).mono ?_
              rintro e w4 ⟨rfl, hb4⟩
              have hex : exIx (validIx X) X = (decide (varsTo L j ≤ 1) && lonTo L q) := by
                rw [HE.out, valid_of_good ⟨L, HA.out, by omega, rfl⟩, ex_ixOf HA.out, hll, HJM.out, HQM.out]
              rw [hex]
              have HB4 := Lib.hid hb4
              clear hb4 hex
              obtain ⟨b, Hb⟩ : ∃ b, Hid (b = (decide (varsTo L j ≤ 1) && lonTo L q)) := ⟨_, rfl⟩
              rw [← Hb.out]
              go_wp2_with fail
              refine (example_any _).mono ?_
              rintro e w5 ⟨rfl, hb5⟩
              have HB5 := Lib.hid hb5
              clear hb5
              go_wp2_with fail
              go_ret
              exact ⟨rfl, bNext HBV.out (bNext HB2.out (bNext HB4.out HB5.out))⟩
end Go.Proofs.Ytpkpdjekoghkcaa
