/-
  The walks of Select and the reference's Select.
-/
import Derived.Test.YtpkpdjekoghkcaaWj
import Derived.Test.YtpkpdjekoghkcaaWh
namespace Go.Proofs.Ytpkpdjekoghkcaa
open Go.RowKit

def selIx (v : Bool) (x : Ix) (k : K) : List Int :=
  if v && okK k then (if k.kind == 0 then x.all else ((x.rows.find? fun r => K.eqv r.1 k).map (·.2)).getD x.rest) else []
theorem sel_bad {v : Bool} {x : Ix} {k : K} (h : v = false ∨ okK k = false) : selIx v x k = [] := by
  unfold selIx; rcases h with h | h <;> simp [h]
theorem sel_var {x : Ix} {k : K} (h : okK k = true) (hk : (k.kind == 0) = true) : selIx true x k = x.all := by
  unfold selIx; simp [h, hk]
theorem sel_row {x : Ix} {k : K} {q : Nat} {r : K × List Int} (h : okK k = true) (hk : (k.kind == 0) = false) (hn : ((x.rows.take q).find? fun r => K.eqv r.1 k) = none) (hr : x.rows[q]? = some r) (he : K.eqv r.1 k = true) : selIx true x k = r.2 := by
  have e : x.rows = x.rows.take q ++ r :: x.rows.drop (q + 1) := by
    have hlt := (List.getElem?_eq_some_iff.1 hr).1
    have := List.getElem_cons_drop hlt
    rw [(List.getElem?_eq_some_iff.1 hr).2] at this
    rw [this, List.take_append_drop]
  unfold selIx
  have : (x.rows.find? fun r => K.eqv r.1 k) = some r := by
    rw [e, List.find?_append, hn, List.find?_cons, he]; rfl
  rw [this]
  simp [h, hk]
theorem sel_rest {x : Ix} {k : K} {q : Nat} (h : okK k = true) (hk : (k.kind == 0) = false) (hn : ((x.rows.take q).find? fun r => K.eqv r.1 k) = none) (hq : x.rows.length ≤ q) : selIx true x k = x.rest := by
  rw [List.take_of_length_le hq] at hn
  unfold selIx; simp [h, hk, hn]
theorem find_next {l : List (K × List Int)} {k : K} {q : Nat} {r : K × List Int} (hn : ((l.take q).find? fun r => K.eqv r.1 k) = none) (hr : l[q]? = some r) (he : K.eqv r.1 k = false) : ((l.take (q + 1)).find? fun r => K.eqv r.1 k) = none := by
  rw [List.take_add_one, hr, List.find?_append, hn]; simp [he]
theorem valid_lens {x : Ix} (h : validIx x = true) : x.all.length ≤ 500 ∧ x.rest.length ≤ 500 ∧ ∀ r ∈ x.rows, r.2.length ≤ 500 := by
  have h0 := h
  unfold validIx at h
  split at h
  · cases h
  · rename_i hg
    simp at hg
    refine ⟨by omega, by omega, ?_⟩
    split at h
    · rename_i ks _
      have e : x = ixOf ks := of_decide_eq_true h
      intro r hr
      have hl : x.all.length = (listTo ks zeroK ks.length).length := by rw [e]; rfl
      rw [e] at hr
      simp only [ixOf, List.mem_map] at hr
      obtain ⟨y, -, rfl⟩ := hr
      have h1 := listTo_len ks y ks.length
      have h2 : (listTo ks zeroK ks.length).length = ks.length := by rw [← rangeTo_list ks zeroK rfl, rangeTo_len]
      simp
      omega
    · cases h

set_option maxRecDepth 100000 in
set_option maxHeartbeats 1000000 in
theorem Select_any (u : Value) (x : Ix) (k : K) (w : World) (hx : IxAt w w.heap.size u x) :
    Calls Try.prog 18 #[u, k.v] w fun e w' => (∃ A n c, e = .returned (.slice A n c) ∧ IntsAt w' w'.heap.size A n (selIx (validIx x) x k)) ∧ Below w.heap.size w w' := by
  have hx0 := hx
  obtain ⟨A0, c0, A1, c1, A2, c2, rfl, ha0, ha1, ha2⟩ := hx
  have n0 := ha0.1.2
  have n1 := ha1.1.2
  have n2 := ha2.1.2
  have he := key_eql
  obtain ⟨W, HW⟩ : ∃ W, Hid (W = (w.alloc (.cells #[.slice A0 x.all.length c0, .slice A1 x.rows.length c1, .slice A2 x.rest.length c2] 26)).alloc (.cells #[.int .i64 k.kind, .int .i64 k.n, .string k.name, .int .i64 k.ar] 35)) := ⟨_, rfl⟩
  have hWb : Below w.heap.size w W := by rw [HW.out]; exact ((Below.refl _ _).alloc (Nat.le_refl _) _).alloc (by simp) _
  have hbox : Blk W w.heap.size 26 #[.slice A0 x.all.length c0, .slice A1 x.rows.length c1, .slice A2 x.rest.length c2] := by rw [HW.out]; exact (Blk.new _ _ _).below (bAlloc _ _) (by simp)
  have hbox2 : Blk W (w.heap.size + 1) 35 #[.int .i64 k.kind, .int .i64 k.n, .string k.name, .int .i64 k.ar] := by rw [HW.out]; have := Blk.new (w.alloc (.cells #[.slice A0 x.all.length c0, .slice A1 x.rows.length c1, .slice A2 x.rest.length c2] 26)) 35 #[.int .i64 k.kind, .int .i64 k.n, .string k.name, .int .i64 k.ar]; simpa using this
  go_enter Try.func18, Try.ntmps18
  go_wp2_with fail
  rw [← HW.out]
  refine (Valid_any _ x _ (by exact ((hx0.below hWb).more hWb.size))).mono ?_
  rintro e w1 ⟨rfl, hb1⟩
  cases hv : validIx x
  · go_wp2_with fail
    go_ret
    exact ⟨⟨none, 0, 0, rfl, by rw [hv, sel_bad (.inl rfl)]; exact IntsAt.nil _ _ _⟩, bNext hWb hb1⟩
  · have q1 := hbox2.below hb1 hbox2.lt
    have k0 : w1.cell? ⟨w.heap.size + 1, 0, none⟩ = some (.int .i64 k.kind) := by rw [q1.cell]; rfl
    have k1 : w1.cell? ⟨w.heap.size + 1, 1, none⟩ = some (.int .i64 k.n) := by rw [q1.cell]; rfl
    have k2 : w1.cell? ⟨w.heap.size + 1, 2, none⟩ = some (.string k.name) := by rw [q1.cell]; rfl
    have k3 : w1.cell? ⟨w.heap.size + 1, 3, none⟩ = some (.int .i64 k.ar) := by rw [q1.cell]; rfl
    have HB1 := Lib.hid hb1
    clear hb1 q1
    go_wp2_with fail
    refine (valid_any k _).mono ?_
    rintro e w2 ⟨rfl, hb2⟩
    have hb3 := bNext HB1.out hb2
    have HB3 := Lib.hid hb3
    have q1 := hbox2.below hb3 hbox2.lt
    have q2 := hbox.below hb3 hbox.lt
    clear k0 k1 k2 k3 hb2
    have k0 : w2.cell? ⟨w.heap.size + 1, 0, none⟩ = some (.int .i64 k.kind) := by rw [q1.cell]; rfl
    have b0 : w2.cell? ⟨w.heap.size, 0, none⟩ = some (.slice A0 x.all.length c0) := by rw [q2.cell]; rfl
    have b1 : w2.cell? ⟨w.heap.size, 1, none⟩ = some (.slice A1 x.rows.length c1) := by rw [q2.cell]; rfl
    clear q1 q2 hb3
    cases hk : okK k
    · go_wp2_with fail
      go_ret
      exact ⟨⟨none, 0, 0, rfl, by rw [hv, sel_bad (.inr hk)]; exact IntsAt.nil _ _ _⟩, bNext hWb HB3.out⟩
    · obtain ⟨v0, v1, v2⟩ := valid_lens hv
      cases hz : (k.kind == 0)
      · go_wp2_with fail
        go_loopw [6, 24] (fun _ i wr => ∃ q, q ≤ x.rows.length ∧ i = .int .i64 ((q : Nat) : Int) ∧ Below W.heap.size W wr ∧
          Hid (((x.rows.take q).find? fun r => K.eqv r.1 k) = none)) (fun _ i _ => x.rows.length - (intOf i).toNat)
        case atStart => exact ⟨0, by omega, rfl, HB3.out, Lib.hid rfl⟩
        case round =>
          obtain ⟨q, hq, rfl, hb, HN⟩ := hrel
          clear k0 b0 b1
          have hbw : Below w.heap.size w wr := bNext hWb hb
          have q1 := hbox2.below hb hbox2.lt
          have q2 := hbox.below hb hbox.lt
          by_cases hqt : q < x.rows.length
          · obtain ⟨b, off, r, rfl, hB, hr, hr4, A, c, hr5', hrl⟩ := ha1.at hqt
            obtain ⟨h1, h2, h3, h4⟩ := (hr4.below hB hbw).four
            have hr5 := (hbw.cell (p := ⟨b, off + q * 5 + 4, none⟩) hB).trans hr5'
            clear hr5'
            have zb : b < wr.heap.size := by have := hbw.size; omega
            have nr := hrl.1.2
            have k0 : wr.cell? ⟨w.heap.size + 1, 0, none⟩ = some (.int .i64 k.kind) := by rw [q1.cell]; rfl
            have k1 : wr.cell? ⟨w.heap.size + 1, 1, none⟩ = some (.int .i64 k.n) := by rw [q1.cell]; rfl
            have k2 : wr.cell? ⟨w.heap.size + 1, 2, none⟩ = some (.string k.name) := by rw [q1.cell]; rfl
            have k3 : wr.cell? ⟨w.heap.size + 1, 3, none⟩ = some (.int .i64 k.ar) := by rw [q1.cell]; rfl
            have zk : w.heap.size + 1 < wr.heap.size := q1.lt
            have HR := Lib.hid hr
            have HB := Lib.hid hb
            have hrl' := (hrl.below hbw).more hbw.size
            clear hr hr4 hb hrl q1 q2
            cases hke : eqK r.1.kind r.1.n r.1.name r.1.ar k.kind k.n k.name k.ar
            · go_wp2_with fail
              exact ⟨⟨q + 1, by omega, by go_num, bNext HB.out (bAlloc _ _), Lib.hid (find_next HN.out HR.out hke)⟩, by simp [intOf]; omega⟩
            · have hba := bAlloc wr (.cells #[.int .i64 r.1.kind, .int .i64 r.1.n, .string r.1.name, .int .i64 r.1.ar, .slice A r.2.length c] 62)
              have hlr := v2 r (List.mem_of_getElem? HR.out)
              go_wp2_with fail
              refine (clone_any A r.2.length c r.2 _ (by omega) (by exact (hrl'.below hba).more hba.size)).mono ?_
              rintro e w3 ⟨⟨v, rfl, hv3⟩, hb3⟩
              obtain ⟨A', c', rfl, hown⟩ := own_ints hv3 (by omega)
              go_wp2_with fail
              go_ret
              exact ⟨⟨A', _, c', rfl, by rw [hv, sel_row hk hz HN.out HR.out hke]; exact hown⟩, bNext hbw (bStart hb3)⟩
          · have b2 : wr.cell? ⟨w.heap.size, 2, none⟩ = some (.slice A2 x.rest.length c2) := by rw [q2.cell]; rfl
            have HB := Lib.hid hbw
            have ha2' := (ha2.below hbw).more hbw.size
            clear hb q1 q2 hbw
            go_wp2_with fail
            refine (clone_any A2 x.rest.length c2 x.rest _ (by omega) (by exact ha2')).mono ?_
            rintro e w3 ⟨⟨v, rfl, hv3⟩, hb3⟩
            obtain ⟨A', c', rfl, hown⟩ := own_ints hv3 (by omega)
            go_wp2_with fail
            go_ret
            exact ⟨⟨A', _, c', rfl, by rw [hv, sel_rest hk hz HN.out (by omega)]; exact hown⟩, bNext HB.out hb3⟩
      · have HBW := Lib.hid (bNext hWb HB3.out)
        have ha0' := (ha0.below HBW.out).more HBW.out.size
        go_wp2_with fail
        refine (clone_any A0 x.all.length c0 x.all _ (by omega) (by exact ha0')).mono ?_
        rintro e w3 ⟨⟨v, rfl, hv3⟩, hb3⟩
        obtain ⟨A', c', rfl, hown⟩ := own_ints hv3 (by omega)
        go_wp2_with fail
        go_ret
        exact ⟨⟨A', _, c', rfl, by rw [hv, sel_var hk hz]; exact hown⟩, bNext HBW.out hb3⟩

set_option maxRecDepth 100000 in
set_option maxHeartbeats 1000000 in
theorem refSelect_any (u : Value) (x : Ix) (k : K) (w : World) (hx : IxAt w w.heap.size u x) :
    Calls Try.prog 19 #[u, k.v] w fun e w' => (∃ A n c, e = .returned (.slice A n c) ∧ IntsAt w' w'.heap.size A n (selIx (refValidIx x) x k)) ∧ Below w.heap.size w w' := by
  have hx0 := hx
  obtain ⟨A0, c0, A1, c1, A2, c2, rfl, ha0, ha1, ha2⟩ := hx
  have n0 := ha0.1.2
  have n1 := ha1.1.2
  have n2 := ha2.1.2
  have he := key_eql
  obtain ⟨W, HW⟩ : ∃ W, Hid (W = (w.alloc (.cells #[.slice A0 x.all.length c0, .slice A1 x.rows.length c1, .slice A2 x.rest.length c2] 26)).alloc (.cells #[.int .i64 k.kind, .int .i64 k.n, .string k.name, .int .i64 k.ar] 35)) := ⟨_, rfl⟩
  have hWb : Below w.heap.size w W := by rw [HW.out]; exact ((Below.refl _ _).alloc (Nat.le_refl _) _).alloc (by simp) _
  have hbox : Blk W w.heap.size 26 #[.slice A0 x.all.length c0, .slice A1 x.rows.length c1, .slice A2 x.rest.length c2] := by rw [HW.out]; exact (Blk.new _ _ _).below (bAlloc _ _) (by simp)
  have hbox2 : Blk W (w.heap.size + 1) 35 #[.int .i64 k.kind, .int .i64 k.n, .string k.name, .int .i64 k.ar] := by rw [HW.out]; have := Blk.new (w.alloc (.cells #[.slice A0 x.all.length c0, .slice A1 x.rows.length c1, .slice A2 x.rest.length c2] 26)) 35 #[.int .i64 k.kind, .int .i64 k.n, .string k.name, .int .i64 k.ar]; simpa using this
  go_enter Try.func19, Try.ntmps19
  go_wp2_with fail
  rw [← HW.out]
  refine (refValid_any _ x _ (by exact ((hx0.below hWb).more hWb.size))).mono ?_
  rintro e w1 ⟨rfl, hb1⟩
  cases hv : refValidIx x
  · go_wp2_with fail
    go_ret
    exact ⟨⟨none, 0, 0, rfl, by rw [hv, sel_bad (.inl rfl)]; exact IntsAt.nil _ _ _⟩, bNext hWb hb1⟩
  · have q1 := hbox2.below hb1 hbox2.lt
    have k0 : w1.cell? ⟨w.heap.size + 1, 0, none⟩ = some (.int .i64 k.kind) := by rw [q1.cell]; rfl
    have k1 : w1.cell? ⟨w.heap.size + 1, 1, none⟩ = some (.int .i64 k.n) := by rw [q1.cell]; rfl
    have k2 : w1.cell? ⟨w.heap.size + 1, 2, none⟩ = some (.string k.name) := by rw [q1.cell]; rfl
    have k3 : w1.cell? ⟨w.heap.size + 1, 3, none⟩ = some (.int .i64 k.ar) := by rw [q1.cell]; rfl
    have HB1 := Lib.hid hb1
    clear hb1 q1
    go_wp2_with fail
    refine (validKey_any k _).mono ?_
    rintro e w2 ⟨rfl, hb2⟩
    have hb3 := bNext HB1.out hb2
    have HB3 := Lib.hid hb3
    have q1 := hbox2.below hb3 hbox2.lt
    clear k0 k1 k2 k3 hb2
    have k0 : w2.cell? ⟨w.heap.size + 1, 0, none⟩ = some (.int .i64 k.kind) := by rw [q1.cell]; rfl
    have k1 : w2.cell? ⟨w.heap.size + 1, 1, none⟩ = some (.int .i64 k.n) := by rw [q1.cell]; rfl
    have k2 : w2.cell? ⟨w.heap.size + 1, 2, none⟩ = some (.string k.name) := by rw [q1.cell]; rfl
    have k3 : w2.cell? ⟨w.heap.size + 1, 3, none⟩ = some (.int .i64 k.ar) := by rw [q1.cell]; rfl
    clear q1 hb3
    cases hk : okK k
    · go_wp2_with fail
      go_ret
      exact ⟨⟨none, 0, 0, rfl, by rw [hv, sel_bad (.inr hk)]; exact IntsAt.nil _ _ _⟩, bNext hWb HB3.out⟩
    · go_wp2_with fail
      refine (isVar_any k _).mono ?_
      rintro e w3 ⟨rfl, hb4⟩
      have hb5 := bNext HB3.out hb4
      have HB5 := Lib.hid hb5
      have q2 := hbox.below hb5 hbox.lt
      have b0 : w3.cell? ⟨w.heap.size, 0, none⟩ = some (.slice A0 x.all.length c0) := by rw [q2.cell]; rfl
      clear k0 k1 k2 k3 hb4 hb5 q2
      cases hz : (k.kind == 0)
      · go_wp2_with fail
        go_loopw [5] (fun i wr => ∃ q, q ≤ x.rows.length ∧ i = .int .i64 ((q : Nat) : Int) ∧ Below W.heap.size W wr ∧
          Hid (((x.rows.take q).find? fun r => K.eqv r.1 k) = none)) (fun i _ => x.rows.length - (intOf i).toNat)
        case atStart => exact ⟨0, by omega, rfl, HB5.out, Lib.hid rfl⟩
        case round =>
          obtain ⟨q, hq, rfl, hb, HN⟩ := hrel
          clear b0
          have hbw : Below w.heap.size w wr := bNext hWb hb
          have q1 := hbox2.below hb hbox2.lt
          have q2 := hbox.below hb hbox.lt
          have b1 : wr.cell? ⟨w.heap.size, 1, none⟩ = some (.slice A1 x.rows.length c1) := by rw [q2.cell]; rfl
          by_cases hqt : q < x.rows.length
          · obtain ⟨b, off, r, rfl, hB, hr, hr4, A, c, hr5', hrl⟩ := ha1.at hqt
            obtain ⟨h1, h2, h3, h4⟩ := (hr4.below hB hbw).four
            have hr5 := (hbw.cell (p := ⟨b, off + q * 5 + 4, none⟩) hB).trans hr5'
            clear hr5'
            have nr := hrl.1.2
            have k0 : wr.cell? ⟨w.heap.size + 1, 0, none⟩ = some (.int .i64 k.kind) := by rw [q1.cell]; rfl
            have k1 : wr.cell? ⟨w.heap.size + 1, 1, none⟩ = some (.int .i64 k.n) := by rw [q1.cell]; rfl
            have k2 : wr.cell? ⟨w.heap.size + 1, 2, none⟩ = some (.string k.name) := by rw [q1.cell]; rfl
            have k3 : wr.cell? ⟨w.heap.size + 1, 3, none⟩ = some (.int .i64 k.ar) := by rw [q1.cell]; rfl
            have HR := Lib.hid hr
            have HB := Lib.hid hb
            have hrl' := (hrl.below hbw).more hbw.size
            have HBW := Lib.hid hbw
            clear hr hr4 hb hrl q1 q2 hbw
            cases hke : eqK r.1.kind r.1.n r.1.name r.1.ar k.kind k.n k.name k.ar
            · go_wp2_with fail
              go_quiet (fail)
              go_wp2_with fail
              exact ⟨⟨q + 1, by omega, by go_num, bDrewN HB.out _, Lib.hid (find_next HN.out HR.out hke)⟩, by simp [intOf]; omega⟩
            · go_wp2_with fail
              go_quiet (fail)
              go_wp2_with fail
              go_ret
              exact ⟨⟨A, _, c, rfl, by rw [hv, sel_row hk hz HN.out HR.out hke]; exact hrl'⟩, bDrewN HBW.out _⟩
          · have b2 : wr.cell? ⟨w.heap.size, 2, none⟩ = some (.slice A2 x.rest.length c2) := by rw [q2.cell]; rfl
            have ha2' := (ha2.below hbw).more hbw.size
            have HBW := Lib.hid hbw
            clear hb q1 q2 hbw
            go_wp2_with fail
            go_ret
            exact ⟨⟨A2, _, c2, rfl, by rw [hv, sel_rest hk hz HN.out (by omega)]; exact ha2'⟩, HBW.out⟩
      · have HBW := Lib.hid (bNext hWb HB5.out)
        have ha0' := (ha0.below HBW.out).more HBW.out.size
        go_wp2_with fail
        go_ret
        exact ⟨⟨A0, _, c0, rfl, by rw [hv, sel_var hk hz]; exact ha0'⟩, HBW.out⟩
end Go.Proofs.Ytpkpdjekoghkcaa
