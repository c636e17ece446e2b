/-
  The walk of the law IndexSkips.
-/
import Derived.Test.YtpkpdjekoghkcaaWn
import Derived.Test.YtpkpdjekoghkcaaPv
namespace Go.Proofs.Ytpkpdjekoghkcaa
open Go.RowKit

theorem KeysAt.take {w : World} {B n m : Nat} {A : Option Addr} {l : List K} (h : KeysAt w B A n l) (hm : m ≤ n) : KeysAt w B A m (l.take m) := by
  obtain ⟨⟨hl, hn⟩, h2⟩ := h
  refine ⟨⟨by rw [List.length_take]; omega, by omega⟩, fun h0 => ?_⟩
  obtain ⟨b, off, e, hb, hc⟩ := h2 (by omega)
  refine ⟨b, off, e, hb, fun i x hx => hc i x ?_⟩
  rw [List.getElem?_take] at hx
  split at hx
  · exact hx
  · cases hx
/-- the clauses that the law selects -/
def hitK (k x : K) : Bool := K.eqv k zeroK || K.eqv x zeroK || K.eqv x k
theorem hit_mat {k x : K} (hk : okK k = true) (hx : okK x = true) : hitK k x = matK x k := by
  have h0 : ∀ y : K, okK y = true → K.eqv y zeroK = (y.kind == 0) := fun y hy => by
    rw [Bool.eq_iff_iff, K.eqv_iff]
    constructor
    · rintro rfl; rfl
    · intro h; exact okK_zero hy (by simpa using h)
  unfold hitK matK
  rw [h0 k hk, h0 x hx]

/-- what is selected in the index of valid keys -/
theorem sel_ixOf {L : List K} {k : K} (_ : L.all okK = true) (hk : okK k = true) : selIx true (ixOf L) k = listTo L k L.length := by
  cases hz : (k.kind == 0)
  · have hk0 : k.kind ≠ 0 := by simpa using hz
    by_cases hm : k ∈ nubTo L L.length
    · obtain ⟨q, hq⟩ := List.mem_iff_getElem?.1 hm
      have hfind : ((ixOf L).rows.find? fun r => K.eqv r.1 k) = some (k, listTo L k L.length) := by
        show (((nubTo L L.length).map fun x => (x, listTo L x L.length)).find? fun r => K.eqv r.1 k) = _
        rw [List.find?_map]
        have : ((nubTo L L.length).find? ((fun r : K × List Int => K.eqv r.1 k) ∘ fun x => (x, listTo L x L.length))) = some k := by
          cases hf : (nubTo L L.length).find? ((fun r : K × List Int => K.eqv r.1 k) ∘ fun x => (x, listTo L x L.length)) with
          | none => rw [List.find?_eq_none] at hf; exact absurd ((K.eqv_iff k k).2 rfl) (hf k hm)
          | some y => exact congrArg some ((K.eqv_iff y k).1 (by simpa using List.find?_some hf))
        rw [this]; rfl
      unfold selIx
      rw [hfind]; simp [hk, hz]
    · have hfind : ((ixOf L).rows.find? fun r => K.eqv r.1 k) = none := by
        rw [List.find?_eq_none]
        intro r hr
        simp only [ixOf, List.mem_map] at hr
        obtain ⟨y, hy, rfl⟩ := hr
        intro he
        exact hm ((K.eqv_iff y k).1 he ▸ hy)
      unfold selIx
      rw [hfind]
      simp only [hk, hz, Bool.and_self, if_true, Bool.false_eq_true, if_false, Option.map_none, Option.getD_none]
      show restTo L L.length = listTo L k L.length
      unfold restTo listTo
      congr 1
      apply List.filter_congr
      intro i hi
      cases hx : L[i]? with
      | none => rfl
      | some x =>
        simp only [Option.map_some, Option.getD_some]
        cases hx0 : (x.kind == 0)
        · rw [matK_other hx0 hz]
          rintro rfl
          exact hm ((nubTo_mem L _ _).2 ⟨hk0, by rw [List.take_length]; exact List.mem_of_getElem? hx⟩)
        · rw [matK_var hx0]
  · unfold selIx
    simp only [hk, hz, Bool.and_self, if_true]
    show listTo L zeroK L.length = listTo L k L.length
    rw [← rangeTo_list L zeroK rfl, rangeTo_list L k hz]
set_option maxRecDepth 100000 in
set_option maxHeartbeats 2000000 in
theorem law5_any (A : Option Addr) (n c : Nat) (hcap : n ≤ c) (ks : List K) (k : K) (w : World) (ha : KeysAt w w.heap.size A n ks) :
    Calls Try.prog 5 #[.slice A n c, k.v] w fun e w' => e = .returned (.bool true) ∧ Below w.heap.size w w' := by
  have n48 := ha.1.2
  obtain ⟨i0, hi, hz0, hz1, hz2⟩ := info_parts info3
  have he := key_eql
  go_enter Try.func5, Try.ntmps5
  go_wp2_with fail
  · obtain ⟨L, hL⟩ : ∃ L, KeysAt w w.heap.size A 500 L := ⟨_, ha.take (by omega)⟩
    have hM5 : 500 ≤ 500 := by omega
    have hll : L.length = 500 := hL.1.1
    obtain ⟨W, HW⟩ : ∃ W, Hid (W = w.alloc (.cells #[.int .i64 k.kind, .int .i64 k.n, .string k.name, .int .i64 k.ar] 35)) := ⟨_, rfl⟩
    have hWb : Below w.heap.size w W := by rw [HW.out]; exact bAlloc _ _
    have hbox : Blk W w.heap.size 35 #[.int .i64 k.kind, .int .i64 k.n, .string k.name, .int .i64 k.ar] := by rw [HW.out]; exact Blk.new _ _ _
    rw [← HW.out]
    refine (validKey_any k _).mono ?_
    rintro e w1 ⟨rfl, hb1⟩
    cases hok : okK k
    · go_wp2_with fail
      refine (example_any _).mono ?_
      rintro e wE ⟨rfl, hbE⟩
      go_wp2_with fail
      go_ret
      exact ⟨rfl, bNext hWb (bNext hb1 hbE)⟩
    · have HOK := Lib.hid hok
      have HB1 := Lib.hid hb1
      clear hb1 hok
      go_wp2_with fail
      go_loopw [5] (fun i wr => ∃ j : Nat, j ≤ 500 ∧ i = .int .i64 (j : Int) ∧ Below W.heap.size W wr ∧ Hid ((L.take j).all okK = true)) (fun i _ => 500 - (intOf i).toNat)
      case atStart => exact ⟨0, by omega, rfl, HB1.out, Lib.hid rfl⟩
      case round =>
        obtain ⟨j, hj, rfl, hb, HT⟩ := hrel
        have hbw : Below w.heap.size w wr := bNext hWb hb
        have HB := Lib.hid hb
        by_cases hlt : j < 500
        · obtain ⟨b, off, x, rfl, hB, hx, hx4⟩ := (hL.below hbw).at hlt
          obtain ⟨h1, h2, h3, h4⟩ := hx4.four
          have HX := Lib.hid hx
          clear hb hx hx4 hbw
          go_wp2_with fail
          refine (validKey_any x _).mono ?_
          rintro e w2 ⟨rfl, hb2⟩
          have HB2 := Lib.hid (bNext HB.out hb2)
          clear h1 h2 h3 h4 hb2
          cases hokx : okK x
          · go_wp2_with fail
            refine (example_any _).mono ?_
            rintro e wE ⟨rfl, hbE⟩
            go_wp2_with fail
            go_ret
            exact ⟨rfl, bNext hWb (bNext HB2.out hbE)⟩
          · go_wp2_with fail
            exact ⟨⟨j + 1, by omega, by go_num, HB2.out, Lib.hid (all_next HT.out HX.out hokx)⟩, by simp [intOf]; omega⟩
        · have hA := HT.out
          rw [List.take_of_length_le (by omega)] at hA
          have HA := Lib.hid hA
          have hL' := (hL.below hbw).more hbw.size
          clear hb hA
          go_wp2_with fail
          refine (Build_any A 500 c L _ hL').mono ?_
          rintro e w3 ⟨⟨v, rfl, hv⟩, hb3⟩
          have e1 : buildE L = 0 := by unfold buildE; rw [HA.out, if_pos rfl, if_pos (by omega)]
          have e2 : buildIx L = ixOf L := by unfold buildIx; rw [HA.out, decide_eq_true (by omega : L.length ≤ 500)]; rfl
          rw [e2] at hv
          rw [e1]
          have hv0 := hv
          obtain ⟨A0, c0, A1, c1, A2, c2, rfl, -, -, -⟩ := hv
          obtain ⟨V, HV⟩ : ∃ V, Hid (V = w3.alloc (.cells #[.slice A0 (ixOf L).all.length c0, .slice A1 (ixOf L).rows.length c1, .slice A2 (ixOf L).rest.length c2] 26)) := ⟨_, rfl⟩
          obtain ⟨N, HN⟩ : ∃ N, Hid (N = w3.heap.size) := ⟨_, rfl⟩
          have hbV3 : Below w3.heap.size w3 V := by rw [HV.out]; exact bAlloc _ _
          have hWV := bNext (bNext HB.out hb3) hbV3
          have hbV : Below w.heap.size w V := bNext hWb hWV
          have qx : Blk V N 26 #[.slice A0 (ixOf L).all.length c0, .slice A1 (ixOf L).rows.length c1, .slice A2 (ixOf L).rest.length c2] := by rw [HV.out, HN.out]; exact Blk.new _ _ _
          have qk := hbox.below hWV hbox.lt
          have hix := (hv0.below hbV3).more hbV3.size
          have hLV := (hL.below hbV).more hbV.size
          have HBV := Lib.hid hbV
          have HIX := Lib.hid hix
          clear hv0 hb3 hbV3 hWV hbV hix hL' hbw e1 e2
          go_wp2_with fail
          rw [← HV.out, ← HN.out]
          go_loopw [8, 9] (fun v i wr => ∃ j : Nat, j ≤ 500 ∧ i = .int .i64 (j : Int) ∧ wr.ownsRow V.heap.size 3 1 v (listTo L k j).length ((listTo L k j).map (.int .i64)) ∧ Below V.heap.size V wr) (fun _ i _ => 500 - (intOf i).toNat)
          case atStart => exact ⟨0, by omega, rfl, by rw [listTo_zero]; exact World.ownsRow_nil _ _ _ _, Below.refl _ _⟩
          case round =>
            obtain ⟨j, hj, rfl, hown, hb⟩ := hrel
            have qk' := qk.below hb qk.lt
            have k0 : wr.cell? ⟨w.heap.size, 0, none⟩ = some (.int .i64 k.kind) := by rw [qk'.cell]; rfl
            have k1 : wr.cell? ⟨w.heap.size, 1, none⟩ = some (.int .i64 k.n) := by rw [qk'.cell]; rfl
            have k2 : wr.cell? ⟨w.heap.size, 2, none⟩ = some (.string k.name) := by rw [qk'.cell]; rfl
            have k3 : wr.cell? ⟨w.heap.size, 3, none⟩ = some (.int .i64 k.ar) := by rw [qk'.cell]; rfl
            have HB := Lib.hid hb
            have HO := Lib.hid hown
            have hws : V.heap.size ≤ wr.heap.size := hb.size
            have hll2 := listTo_len L k j
            by_cases hlt : j < 500
            · obtain ⟨b, off, x, rfl, hB, hx, hx4⟩ := (hLV.below hb).at hlt
              obtain ⟨h1, h2, h3, h4⟩ := hx4.four
              have HX := Lib.hid hx
              have hokx : okK x = true := List.all_eq_true.1 HA.out x (List.mem_of_getElem? hx)
              have HM := Lib.hid (hit_mat HOK.out hokx)
              clear hb hown hx hx4 hokx qk'
              cases e1 : eqK k.kind k.n k.name k.ar 0 0 { data := #[] } 0
              · cases e2 : eqK x.kind x.n x.name x.ar 0 0 { data := #[] } 0
                · cases e3 : eqK x.kind x.n x.name x.ar k.kind k.n k.name k.ar
                  · have hh : Hid (hitK k x = false) := Lib.hid (by unfold hitK K.eqv zeroK; rw [e1, e2, e3]; rfl)
                    go_wp2_with fail
                    go_quiet (fail)
                    go_wp2_with fail
                    exact ⟨⟨j + 1, by omega, by go_num, by rw [listTo_no HX.out (by rw [← HM.out, hh.out])]; exact HO.out, bDrewN HB.out _⟩, by simp [intOf]; omega⟩
                  · have hh : hitK k x = true := by unfold hitK K.eqv zeroK; rw [e1, e2, e3]; rfl
                    have hh := Lib.hid hh
                    go_wp2_with fail
                    go_quiet (fail)
                    go_wp2_with (at_builtin; refine wpList_append_own _ rfl (.tmp 62) (.tmp 64) 23 rfl V.heap.size 3 i0 (.int .i64 0) 1 8 Try.underlying23 hi hz0 hz1 hz2 rfl (by decide) _ _ _ rfl (HO.out.alloc _) ⟨wr.heap.size, 0, none⟩ 1 1 [.int .i64 (j : Int)] rfl rfl ?c1q1 ?c2q1 ?c3q1 ?c4q1 ?c5q1 ?_)
                    case c1q1 => exact cell_one_new _ _ _
                    case c2q1 => simp [Value.oneCell']
                    case c3q1 => unfold maxLen; omega
                    case c4q1 => omega
                    case c5q1 => simp; omega
                    intro v' w3 hown' hg _
                    have hB3 : Below V.heap.size V w3 := bGrown ((bDrewN HB.out _).alloc (by simp; omega) _) (HO.out.alloc _) hg (by simp; omega) (Nat.le_refl _)
                    have HB3 := Lib.hid hB3
                    have HO3 := Lib.hid hown'
                    clear hB3 hg hown'
                    go_wp2_with fail
                    exact ⟨⟨j + 1, by omega, by go_num, by rw [listTo_yes HX.out (by rw [← HM.out, hh])]; rw [List.map_append, List.length_append]; exact HO3.out, HB3.out⟩, by simp [intOf]; omega⟩
                · have hh : hitK k x = true := by unfold hitK K.eqv zeroK; rw [e1, e2]; rfl
                  have hh := Lib.hid hh
                  go_wp2_with fail
                  go_quiet (fail)
                  go_wp2_with (at_builtin; refine wpList_append_own _ rfl (.tmp 62) (.tmp 64) 23 rfl V.heap.size 3 i0 (.int .i64 0) 1 8 Try.underlying23 hi hz0 hz1 hz2 rfl (by decide) _ _ _ rfl (HO.out.alloc _) ⟨wr.heap.size, 0, none⟩ 1 1 [.int .i64 (j : Int)] rfl rfl ?c1q2 ?c2q2 ?c3q2 ?c4q2 ?c5q2 ?_)
                  case c1q2 => exact cell_one_new _ _ _
                  case c2q2 => simp [Value.oneCell']
                  case c3q2 => unfold maxLen; omega
                  case c4q2 => omega
                  case c5q2 => simp; omega
                  intro v' w3 hown' hg _
                  have hB3 : Below V.heap.size V w3 := bGrown ((bDrewN HB.out _).alloc (by simp; omega) _) (HO.out.alloc _) hg (by simp; omega) (Nat.le_refl _)
                  have HB3 := Lib.hid hB3
                  have HO3 := Lib.hid hown'
                  clear hB3 hg hown'
                  go_wp2_with fail
                  exact ⟨⟨j + 1, by omega, by go_num, by rw [listTo_yes HX.out (by rw [← HM.out, hh])]; rw [List.map_append, List.length_append]; exact HO3.out, HB3.out⟩, by simp [intOf]; omega⟩
              · have hh : hitK k x = true := by unfold hitK K.eqv zeroK; rw [e1]; rfl
                have hh := Lib.hid hh
                go_wp2_with fail
                go_quiet (fail)
                go_wp2_with (at_builtin; refine wpList_append_own _ rfl (.tmp 62) (.tmp 64) 23 rfl V.heap.size 3 i0 (.int .i64 0) 1 8 Try.underlying23 hi hz0 hz1 hz2 rfl (by decide) _ _ _ rfl (HO.out.alloc _) ⟨wr.heap.size, 0, none⟩ 1 1 [.int .i64 (j : Int)] rfl rfl ?c1q3 ?c2q3 ?c3q3 ?c4q3 ?c5q3 ?_)
                case c1q3 => exact cell_one_new _ _ _
                case c2q3 => simp [Value.oneCell']
                case c3q3 => unfold maxLen; omega
                case c4q3 => omega
                case c5q3 => simp; omega
                intro v' w3 hown' hg _
                have hB3 : Below V.heap.size V w3 := bGrown ((bDrewN HB.out _).alloc (by simp; omega) _) (HO.out.alloc _) hg (by simp; omega) (Nat.le_refl _)
                have HB3 := Lib.hid hB3
                have HO3 := Lib.hid hown'
                clear hB3 hg hown'
                go_wp2_with fail
                exact ⟨⟨j + 1, by omega, by go_num, by rw [listTo_yes HX.out (by rw [← HM.out, hh])]; rw [List.map_append, List.length_append]; exact HO3.out, HB3.out⟩, by simp [intOf]; omega⟩
            · have HJM := Lib.hid (by omega : j = 500)
              have qx' := qx.below hb qx.lt
              have x0 : wr.cell? ⟨N, 0, none⟩ = some (.slice A0 (ixOf L).all.length c0) := by rw [qx'.cell]; rfl
              have x1 : wr.cell? ⟨N, 1, none⟩ = some (.slice A1 (ixOf L).rows.length c1) := by rw [qx'.cell]; rfl
              have x2 : wr.cell? ⟨N, 2, none⟩ = some (.slice A2 (ixOf L).rest.length c2) := by rw [qx'.cell]; rfl
              obtain ⟨Al, cl, rfl, hol⟩ := own_ints hown (by omega)
              have HOL := Lib.hid hol
              have HIX2 := Lib.hid ((HIX.out.below hb).more hb.size)
              have HBW := Lib.hid (bNext HBV.out hb)
              clear hol hb hown qk' qx'
              go_wp2_with fail
              refine (Select_any _ (ixOf L) k _ HIX2.out).mono ?_
              rintro e w4 ⟨⟨B1, n1, d1, rfl, hs1⟩, hb4⟩
              have hsel : selIx (validIx (ixOf L)) (ixOf L) k = listTo L k j := by
                rw [valid_of_good ⟨L, HA.out, by omega, rfl⟩, sel_ixOf HA.out HOK.out, HJM.out, hll]
              rw [hsel] at hs1
              have HS1 := Lib.hid hs1
              have HB4 := Lib.hid hb4
              clear hs1 hb4 hsel
              go_wp2_with fail
              refine (same_any B1 Al n1 _ d1 cl (listTo L k j) (listTo L k j) _ HS1.out ((HOL.out.below HB4.out).more HB4.out.size)).mono ?_
              rintro e w5 ⟨rfl, q5, e5⟩
              have HB5 : Hid (Below w4.heap.size w4 w5) := Lib.hid (by rw [e5]; exact bDrewN (Below.refl _ _) q5)
              rw [show sameL (listTo L k j) (listTo L k j) = true from decide_eq_true rfl]
              clear e5
              go_wp2_with fail
              refine (example_any _).mono ?_
              rintro e w6 ⟨rfl, hb6⟩
              have HB6 := Lib.hid hb6
              clear hb6
              go_wp2_with fail
              go_ret
              exact ⟨rfl, bNext HBW.out (bNext HB4.out (bNext HB5.out HB6.out))⟩
  · obtain ⟨L, hL⟩ : ∃ L, KeysAt w w.heap.size A n L := ⟨_, ha.take (by omega)⟩
    have hM5 : n ≤ 500 := by omega
    have hll : L.length = n := hL.1.1
    obtain ⟨W, HW⟩ : ∃ W, Hid (W = w.alloc (.cells #[.int .i64 k.kind, .int .i64 k.n, .string k.name, .int .i64 k.ar] 35)) := ⟨_, rfl⟩
    have hWb : Below w.heap.size w W := by rw [HW.out]; exact bAlloc _ _
    have hbox : Blk W w.heap.size 35 #[.int .i64 k.kind, .int .i64 k.n, .string k.name, .int .i64 k.ar] := by rw [HW.out]; exact Blk.new _ _ _
    rw [← HW.out]
    refine (validKey_any k _).mono ?_
    rintro e w1 ⟨rfl, hb1⟩
    cases hok : okK k
    · go_wp2_with fail
      refine (example_any _).mono ?_
      rintro e wE ⟨rfl, hbE⟩
      go_wp2_with fail
      go_ret
      exact ⟨rfl, bNext hWb (bNext hb1 hbE)⟩
    · have HOK := Lib.hid hok
      have HB1 := Lib.hid hb1
      clear hb1 hok
      go_wp2_with fail
      go_loopw [5] (fun i wr => ∃ j : Nat, j ≤ n ∧ i = .int .i64 (j : Int) ∧ Below W.heap.size W wr ∧ Hid ((L.take j).all okK = true)) (fun i _ => n - (intOf i).toNat)
      case atStart => exact ⟨0, by omega, rfl, HB1.out, Lib.hid rfl⟩
      case round =>
        obtain ⟨j, hj, rfl, hb, HT⟩ := hrel
        have hbw : Below w.heap.size w wr := bNext hWb hb
        have HB := Lib.hid hb
        by_cases hlt : j < n
        · obtain ⟨b, off, x, rfl, hB, hx, hx4⟩ := (hL.below hbw).at hlt
          obtain ⟨h1, h2, h3, h4⟩ := hx4.four
          have HX := Lib.hid hx
          clear hb hx hx4 hbw
          go_wp2_with fail
          refine (validKey_any x _).mono ?_
          rintro e w2 ⟨rfl, hb2⟩
          have HB2 := Lib.hid (bNext HB.out hb2)
          clear h1 h2 h3 h4 hb2
          cases hokx : okK x
          · go_wp2_with fail
            refine (example_any _).mono ?_
            rintro e wE ⟨rfl, hbE⟩
            go_wp2_with fail
            go_ret
            exact ⟨rfl, bNext hWb (bNext HB2.out hbE)⟩
          · go_wp2_with fail
            exact ⟨⟨j + 1, by omega, by go_num, HB2.out, Lib.hid (all_next HT.out HX.out hokx)⟩, by simp [intOf]; omega⟩
        · have hA := HT.out
          rw [List.take_of_length_le (by omega)] at hA
          have HA := Lib.hid hA
          have hL' := (hL.below hbw).more hbw.size
          clear hb hA
          go_wp2_with fail
          refine (Build_any A n c L _ hL').mono ?_
          rintro e w3 ⟨⟨v, rfl, hv⟩, hb3⟩
          have e1 : buildE L = 0 := by unfold buildE; rw [HA.out, if_pos rfl, if_pos (by omega)]
          have e2 : buildIx L = ixOf L := by unfold buildIx; rw [HA.out, decide_eq_true (by omega : L.length ≤ 500)]; rfl
          rw [e2] at hv
          rw [e1]
          have hv0 := hv
          obtain ⟨A0, c0, A1, c1, A2, c2, rfl, -, -, -⟩ := hv
          obtain ⟨V, HV⟩ : ∃ V, Hid (V = w3.alloc (.cells #[.slice A0 (ixOf L).all.length c0, .slice A1 (ixOf L).rows.length c1, .slice A2 (ixOf L).rest.length c2] 26)) := ⟨_, rfl⟩
          obtain ⟨N, HN⟩ : ∃ N, Hid (N = w3.heap.size) := ⟨_, rfl⟩
          have hbV3 : Below w3.heap.size w3 V := by rw [HV.out]; exact bAlloc _ _
          have hWV := bNext (bNext HB.out hb3) hbV3
          have hbV : Below w.heap.size w V := bNext hWb hWV
          have qx : Blk V N 26 #[.slice A0 (ixOf L).all.length c0, .slice A1 (ixOf L).rows.length c1, .slice A2 (ixOf L).rest.length c2] := by rw [HV.out, HN.out]; exact Blk.new _ _ _
          have qk := hbox.below hWV hbox.lt
          have hix := (hv0.below hbV3).more hbV3.size
          have hLV := (hL.below hbV).more hbV.size
          have HBV := Lib.hid hbV
          have HIX := Lib.hid hix
          clear hv0 hb3 hbV3 hWV hbV hix hL' hbw e1 e2
          go_wp2_with fail
          rw [← HV.out, ← HN.out]
          go_loopw [8, 9] (fun v i wr => ∃ j : Nat, j ≤ n ∧ i = .int .i64 (j : Int) ∧ wr.ownsRow V.heap.size 3 1 v (listTo L k j).length ((listTo L k j).map (.int .i64)) ∧ Below V.heap.size V wr) (fun _ i _ => n - (intOf i).toNat)
          case atStart => exact ⟨0, by omega, rfl, by rw [listTo_zero]; exact World.ownsRow_nil _ _ _ _, Below.refl _ _⟩
          case round =>
            obtain ⟨j, hj, rfl, hown, hb⟩ := hrel
            have qk' := qk.below hb qk.lt
            have k0 : wr.cell? ⟨w.heap.size, 0, none⟩ = some (.int .i64 k.kind) := by rw [qk'.cell]; rfl
            have k1 : wr.cell? ⟨w.heap.size, 1, none⟩ = some (.int .i64 k.n) := by rw [qk'.cell]; rfl
            have k2 : wr.cell? ⟨w.heap.size, 2, none⟩ = some (.string k.name) := by rw [qk'.cell]; rfl
            have k3 : wr.cell? ⟨w.heap.size, 3, none⟩ = some (.int .i64 k.ar) := by rw [qk'.cell]; rfl
            have HB := Lib.hid hb
            have HO := Lib.hid hown
            have hws : V.heap.size ≤ wr.heap.size := hb.size
            have hll2 := listTo_len L k j
            by_cases hlt : j < n
            · obtain ⟨b, off, x, rfl, hB, hx, hx4⟩ := (hLV.below hb).at hlt
              obtain ⟨h1, h2, h3, h4⟩ := hx4.four
              have HX := Lib.hid hx
              have hokx : okK x = true := List.all_eq_true.1 HA.out x (List.mem_of_getElem? hx)
              have HM := Lib.hid (hit_mat HOK.out hokx)
              clear hb hown hx hx4 hokx qk'
              cases e1 : eqK k.kind k.n k.name k.ar 0 0 { data := #[] } 0
              · cases e2 : eqK x.kind x.n x.name x.ar 0 0 { data := #[] } 0
                · cases e3 : eqK x.kind x.n x.name x.ar k.kind k.n k.name k.ar
                  · have hh : Hid (hitK k x = false) := Lib.hid (by unfold hitK K.eqv zeroK; rw [e1, e2, e3]; rfl)
                    go_wp2_with fail
                    go_quiet (fail)
                    go_wp2_with fail
                    exact ⟨⟨j + 1, by omega, by go_num, by rw [listTo_no HX.out (by rw [← HM.out, hh.out])]; exact HO.out, bDrewN HB.out _⟩, by simp [intOf]; omega⟩
                  · have hh : hitK k x = true := by unfold hitK K.eqv zeroK; rw [e1, e2, e3]; rfl
                    have hh := Lib.hid hh
                    go_wp2_with fail
                    go_quiet (fail)
                    go_wp2_with (at_builtin; refine wpList_append_own _ rfl (.tmp 62) (.tmp 64) 23 rfl V.heap.size 3 i0 (.int .i64 0) 1 8 Try.underlying23 hi hz0 hz1 hz2 rfl (by decide) _ _ _ rfl (HO.out.alloc _) ⟨wr.heap.size, 0, none⟩ 1 1 [.int .i64 (j : Int)] rfl rfl ?c1q4 ?c2q4 ?c3q4 ?c4q4 ?c5q4 ?_)
                    case c1q4 => exact cell_one_new _ _ _
                    case c2q4 => simp [Value.oneCell']
                    case c3q4 => unfold maxLen; omega
                    case c4q4 => omega
                    case c5q4 => simp; omega
                    intro v' w3 hown' hg _
                    have hB3 : Below V.heap.size V w3 := bGrown ((bDrewN HB.out _).alloc (by simp; omega) _) (HO.out.alloc _) hg (by simp; omega) (Nat.le_refl _)
                    have HB3 := Lib.hid hB3
                    have HO3 := Lib.hid hown'
                    clear hB3 hg hown'
                    go_wp2_with fail
                    exact ⟨⟨j + 1, by omega, by go_num, by rw [listTo_yes HX.out (by rw [← HM.out, hh])]; rw [List.map_append, List.length_append]; exact HO3.out, HB3.out⟩, by simp [intOf]; omega⟩
                · have hh : hitK k x = true := by unfold hitK K.eqv zeroK; rw [e1, e2]; rfl
                  have hh := Lib.hid hh
                  go_wp2_with fail
                  go_quiet (fail)
                  go_wp2_with (at_builtin; refine wpList_append_own _ rfl (.tmp 62) (.tmp 64) 23 rfl V.heap.size 3 i0 (.int .i64 0) 1 8 Try.underlying23 hi hz0 hz1 hz2 rfl (by decide) _ _ _ rfl (HO.out.alloc _) ⟨wr.heap.size, 0, none⟩ 1 1 [.int .i64 (j : Int)] rfl rfl ?c1q5 ?c2q5 ?c3q5 ?c4q5 ?c5q5 ?_)
                  case c1q5 => exact cell_one_new _ _ _
                  case c2q5 => simp [Value.oneCell']
                  case c3q5 => unfold maxLen; omega
                  case c4q5 => omega
                  case c5q5 => simp; omega
                  intro v' w3 hown' hg _
                  have hB3 : Below V.heap.size V w3 := bGrown ((bDrewN HB.out _).alloc (by simp; omega) _) (HO.out.alloc _) hg (by simp; omega) (Nat.le_refl _)
                  have HB3 := Lib.hid hB3
                  have HO3 := Lib.hid hown'
                  clear hB3 hg hown'
                  go_wp2_with fail
                  exact ⟨⟨j + 1, by omega, by go_num, by rw [listTo_yes HX.out (by rw [← HM.out, hh])]; rw [List.map_append, List.length_append]; exact HO3.out, HB3.out⟩, by simp [intOf]; omega⟩
              · have hh : hitK k x = true := by unfold hitK K.eqv zeroK; rw [e1]; rfl
                have hh := Lib.hid hh
                go_wp2_with fail
                go_quiet (fail)
                go_wp2_with (at_builtin; refine wpList_append_own _ rfl (.tmp 62) (.tmp 64) 23 rfl V.heap.size 3 i0 (.int .i64 0) 1 8 Try.underlying23 hi hz0 hz1 hz2 rfl (by decide) _ _ _ rfl (HO.out.alloc _) ⟨wr.heap.size, 0, none⟩ 1 1 [.int .i64 (j : Int)] rfl rfl ?c1q6 ?c2q6 ?c3q6 ?c4q6 ?c5q6 ?_)
                case c1q6 => exact cell_one_new _ _ _
                case c2q6 => simp [Value.oneCell']
                case c3q6 => unfold maxLen; omega
                case c4q6 => omega
                case c5q6 => simp; omega
                intro v' w3 hown' hg _
                have hB3 : Below V.heap.size V w3 := bGrown ((bDrewN HB.out _).alloc (by simp; omega) _) (HO.out.alloc _) hg (by simp; omega) (Nat.le_refl _)
                have HB3 := Lib.hid hB3
                have HO3 := Lib.hid hown'
                clear hB3 hg hown'
                go_wp2_with fail
                exact ⟨⟨j + 1, by omega, by go_num, by rw [listTo_yes HX.out (by rw [← HM.out, hh])]; rw [List.map_append, List.length_append]; exact HO3.out, HB3.out⟩, by simp [intOf]; omega⟩
            · have HJM := Lib.hid (by omega : j = n)
              have qx' := qx.below hb qx.lt
              have x0 : wr.cell? ⟨N, 0, none⟩ = some (.slice A0 (ixOf L).all.length c0) := by rw [qx'.cell]; rfl
              have x1 : wr.cell? ⟨N, 1, none⟩ = some (.slice A1 (ixOf L).rows.length c1) := by rw [qx'.cell]; rfl
              have x2 : wr.cell? ⟨N, 2, none⟩ = some (.slice A2 (ixOf L).rest.length c2) := by rw [qx'.cell]; rfl
              obtain ⟨Al, cl, rfl, hol⟩ := own_ints hown (by omega)
              have HOL := Lib.hid hol
              have HIX2 := Lib.hid ((HIX.out.below hb).more hb.size)
              have HBW := Lib.hid (bNext HBV.out hb)
              clear hol hb hown qk' qx'
              go_wp2_with fail
              refine (Select_any _ (ixOf L) k _ HIX2.out).mono ?_
              rintro e w4 ⟨⟨B1, n1, d1, rfl, hs1⟩, hb4⟩
              have hsel : selIx (validIx (ixOf L)) (ixOf L) k = listTo L k j := by
                rw [valid_of_good ⟨L, HA.out, by omega, rfl⟩, sel_ixOf HA.out HOK.out, HJM.out, hll]
              rw [hsel] at hs1
              have HS1 := Lib.hid hs1
              have HB4 := Lib.hid hb4
              clear hs1 hb4 hsel
              go_wp2_with fail
              refine (same_any B1 Al n1 _ d1 cl (listTo L k j) (listTo L k j) _ HS1.out ((HOL.out.below HB4.out).more HB4.out.size)).mono ?_
              rintro e w5 ⟨rfl, q5, e5⟩
              have HB5 : Hid (Below w4.heap.size w4 w5) := Lib.hid (by rw [e5]; exact bDrewN (Below.refl _ _) q5)
              rw [show sameL (listTo L k j) (listTo L k j) = true from decide_eq_true rfl]
              clear e5
              go_wp2_with fail
              refine (example_any _).mono ?_
              rintro e w6 ⟨rfl, hb6⟩
              have HB6 := Lib.hid hb6
              clear hb6
              go_wp2_with fail
              go_ret
              exact ⟨rfl, bNext HBW.out (bNext HB4.out (bNext HB5.out HB6.out))⟩
end Go.Proofs.Ytpkpdjekoghkcaa
