/-
  The law of StreamsReads.
-/
import Derived.Test.YtklpghpfdeojeaaCc
import Derived.Test.YtklpghpfdeojeaaCd
import Derived.Test.YtklpghpfdeojeaaWa
import Derived.Test.YtklpghpfdeojeaaSh
import Derived.Deep.Cut
namespace Go.Proofs.Ytklpghpfdeojeaa
open Go.RowKit

set_option maxHeartbeats 8000000 in
set_option maxRecDepth 100000 in
theorem law_reads (t0 : ByteArray) (eof : Int) (K1 : Option Addr) (k1 : Nat) (l : List Bool) (w : World) (hz : t0.size ≤ maxLen) (_ : -9223372036854775808 ≤ eof ∧ eof ≤ 9223372036854775807)
    (hlb : l.length * 1 ≤ reachBytes) (hr : RowAt w w.heap.size 1 (fun b : Bool => [.bool b]) K1 l) :
    Calls Try.prog 4 #[.string t0, .int .i64 eof, .slice K1 l.length k1] w fun e w' => e = .returned (.bool true) ∧ Below w.heap.size w w' := by
  simp only [reachBytes] at hlb
  unfold maxLen at hz
  have HR1 := Lib.hid hr
  clear hr
  obtain ⟨m, hm⟩ : ∃ m : Int, Hid (m = if 200 < (t0.size : Int) then 200 else (t0.size : Int)) := ⟨_, rfl⟩
  have hm2 : m ≤ 200 := by rw [hm.out]; split <;> omega
  obtain ⟨t, ht⟩ : ∃ t, Hid (t = t0.extract 0 m.toNat) := ⟨_, rfl⟩
  have hts : t.size ≤ 200 := by rw [ht.out, ByteArray.size_extract]; omega
  go_enter Try.func4, Try.ntmps4
  go_upto_region 2 with fail
  rw [← hm.out, ← ht.out]
  clear ht hm hm2
  have hfz : FilesAt (w.alloc (.cells #[.string ⟨#[102]⟩, .string t] 35)) (w.alloc (.cells #[.string ⟨#[102]⟩, .string t] 35)).heap.size (some ⟨w.heap.size, 0, none⟩) 1 [⟨⟨#[102]⟩, t⟩] := by
    refine ⟨⟨rfl, by omega⟩, fun _ => ⟨w.heap.size, 0, rfl, by simp, fun i x hx => ?_⟩⟩
    have hk := Blk.new w 35 #[.string ⟨#[102]⟩, .string t]
    match i, hx with
    | 0, hx =>
      simp at hx
      subst hx
      exact ⟨hk.cell 0, hk.cell 1⟩
    | i + 1, hx => simp at hx
  have HFZ := Lib.hid hfz
  have HB := Lib.hid (bAlloc w (.cells #[.string ⟨#[102]⟩, .string t] 35))
  clear hfz
  obtain ⟨s0, hs0⟩ : ∃ s, Hid (S0 t = s) := ⟨_, rfl⟩
  have hnv : newV [⟨⟨#[102]⟩, t⟩] = .ok s0 := by rw [← hs0.out]; exact (new_f t).trans (if_pos (by omega))
  have EN := Lib.hid hnv
  have hv0 : validB s0 = true := by rw [← hs0.out]; exact valid_S0 (by omega)
  have EV0 := Lib.hid hv0
  have hop : openV s0 ⟨#[102]⟩ 1 ⟨#[]⟩ eof = if kindB eof then .ok (Rd t eof 0 false, 2) else .error 1 := by rw [← hs0.out]; exact open_rd t eof (by omega)
  have EOP := Lib.hid hop
  clear hnv hv0 hop hs0
  go_wp2_with fail
  refine (new_any (some ⟨w.heap.size, 0, none⟩) 1 1 [⟨⟨#[102]⟩, t⟩] _ HFZ.out ⟨by omega, fun e => by cases e⟩ (by omega)).mono ?_
  rintro e w1 ⟨⟨v', rfl, ho⟩, hbq⟩
  rw [EN.out] at ho ⊢
  simp only [smOf, errOf] at ho ⊢
  have hsm := ho.fresh (bnd EV0.out).1 (bnd EV0.out).2
  obtain ⟨N0, n0, N1, n1, hv, -⟩ := id hsm
  obtain rfl : v' = .agg #[.slice N0 s0.files.length n0, .slice N1 s0.opn.length n1, .int .i64 s0.inp, .int .i64 s0.out, .int .i64 s0.nxt] := hv
  replace HB := Lib.hid (bNext HB.out hbq)
  clear ho
  obtain ⟨a7, ha7⟩ : ∃ a, a = w1.heap.size := ⟨_, rfl⟩
  have hz7 := hbq.size
  have HN := Lib.hid (hsm.apart (p := a7) (q := a7) (.inr (by omega)) (.inr (by omega)))
  have h7w : w.heap.size ≤ a7 := by simp at hz7; omega
  clear hsm hbq hz7 HFZ
  obtain ⟨W0, HW⟩ : ∃ X, Hid (X = w1.alloc (.cells #[.slice N0 s0.files.length n0, .slice N1 s0.opn.length n1, .int .i64 s0.inp, .int .i64 s0.out, .int .i64 s0.nxt] 25)) := ⟨_, rfl⟩
  have hbq : Below w1.heap.size w1 W0 := by rw [HW.out]; exact bAlloc _ _
  have HK7 := Lib.hid (show Blk W0 a7 25 #[.slice N0 s0.files.length n0, .slice N1 s0.opn.length n1, .int .i64 s0.inp, .int .i64 s0.out, .int .i64 s0.nxt] by rw [HW.out, ha7]; exact Blk.new _ _ _)
  go_upto_region 3 with fail
  rw [← HW.out, ← ha7]
  clear HW ha7
  replace HN := Lib.hid (HN.out.next hbq)
  replace HB := Lib.hid (bNext HB.out hbq)
  clear hbq
  have z0 := HK7.out.cell 0
  have z1 := HK7.out.cell 1
  have z2 := HK7.out.cell 2
  have z3 := HK7.out.cell 3
  have z4 := HK7.out.cell 4
  simp at z0 z1 z2 z3 z4
  have hl7 := HK7.out.lt
  go_wp2_with fail
  by_cases hk1 : eof < 1
  · have hop := EOP.out
    rw [if_neg (by unfold kindB; simp; omega)] at hop
    have EOP' := Lib.hid hop
    clear hop
    refine (open_any _ s0 ⟨#[102]⟩ 1 ⟨#[]⟩ eof _ HN.out.at).mono ?_
    rintro e w2 ⟨⟨v', rfl, ho⟩, hbq⟩
    rw [EOP'.out] at ho ⊢
    simp only [sm2, in2, errOf] at ho ⊢
    have hsm := (ho.fresh (Nat.zero_le _) (Nat.zero_le _)).apart (p := a7) (q := a7) (.inl hl7) (.inl hl7)
    obtain ⟨C0, c0, C1, c1, hv, -⟩ := id hsm
    obtain rfl : v' = .agg #[.slice C0 zS.files.length c0, .slice C1 zS.opn.length c1, .int .i64 zS.inp, .int .i64 zS.out, .int .i64 zS.nxt] := hv
    replace HN := Lib.hid (HN.out.next hbq)
    replace HK7 := Lib.hid (HK7.out.next hbq)
    replace HB := Lib.hid (bNext HB.out hbq)
    have HC := Lib.hid hsm
    clear ho hsm hbq
    clear hl7
    clear z0 z1 z2 z3 z4
    obtain ⟨hW, hU⟩ := put5 (a0 := .slice C0 zS.files.length c0) (a1 := .slice C1 zS.opn.length c1) (a2 := .int .i64 zS.inp) (a3 := .int .i64 zS.out) (a4 := .int .i64 zS.nxt) HK7.out
    have fz0 := HK7.out.frozen 0
    have fz1 := HK7.out.frozen 1
    have fz2 := HK7.out.frozen 2
    have fz3 := HK7.out.frozen 3
    have fz4 := HK7.out.frozen 4
    have cz0 := HK7.out.cell 0
    have cz1 := HK7.out.cell 1
    have cz2 := HK7.out.cell 2
    have cz3 := HK7.out.cell 3
    have cz4 := HK7.out.cell 4
    simp at cz0 cz1 cz2 cz3 cz4
    have lz := HK7.out.lt
    obtain ⟨W3, HW⟩ : ∃ X, Hid (X = (((((w2.setCell ⟨a7, 0, none⟩ (.slice C0 zS.files.length c0)).setCell ⟨a7, 1, none⟩ (.slice C1 zS.opn.length c1)).setCell ⟨a7, 2, none⟩ (.int .i64 zS.inp)).setCell ⟨a7, 3, none⟩ (.int .i64 zS.out)).setCell ⟨a7, 4, none⟩ (.int .i64 zS.nxt))) := ⟨_, rfl⟩
    rw [← HW.out] at hW hU
    go_upto_region 6 with fail
    rw [← HW.out]
    clear HW lz fz0 fz1 fz2 fz3 fz4 cz0 cz1 cz2 cz3 cz4
    replace HN := Lib.hid (HN.out.upd hU)
    replace HC := Lib.hid (HC.out.upd hU)
    replace HB := Lib.hid (hU.below HB.out h7w)
    replace HK7 := Lib.hid hW
    clear hW hU
    go_wp2_with fail
    refine (example_any _).mono ?_
    rintro e wx ⟨rfl, hbx⟩
    replace HB := Lib.hid (bNext HB.out hbx)
    clear hbx
    go_wp2_with fail
    go_ret
    exact ⟨rfl, HB.out⟩
  by_cases hk3 : 3 < eof
  · have hop := EOP.out
    rw [if_neg (by unfold kindB; simp; omega)] at hop
    have EOP' := Lib.hid hop
    clear hop
    refine (open_any _ s0 ⟨#[102]⟩ 1 ⟨#[]⟩ eof _ HN.out.at).mono ?_
    rintro e w2 ⟨⟨v', rfl, ho⟩, hbq⟩
    rw [EOP'.out] at ho ⊢
    simp only [sm2, in2, errOf] at ho ⊢
    have hsm := (ho.fresh (Nat.zero_le _) (Nat.zero_le _)).apart (p := a7) (q := a7) (.inl hl7) (.inl hl7)
    obtain ⟨C0, c0, C1, c1, hv, -⟩ := id hsm
    obtain rfl : v' = .agg #[.slice C0 zS.files.length c0, .slice C1 zS.opn.length c1, .int .i64 zS.inp, .int .i64 zS.out, .int .i64 zS.nxt] := hv
    replace HN := Lib.hid (HN.out.next hbq)
    replace HK7 := Lib.hid (HK7.out.next hbq)
    replace HB := Lib.hid (bNext HB.out hbq)
    have HC := Lib.hid hsm
    clear ho hsm hbq
    clear hl7
    clear z0 z1 z2 z3 z4
    obtain ⟨hW, hU⟩ := put5 (a0 := .slice C0 zS.files.length c0) (a1 := .slice C1 zS.opn.length c1) (a2 := .int .i64 zS.inp) (a3 := .int .i64 zS.out) (a4 := .int .i64 zS.nxt) HK7.out
    have fz0 := HK7.out.frozen 0
    have fz1 := HK7.out.frozen 1
    have fz2 := HK7.out.frozen 2
    have fz3 := HK7.out.frozen 3
    have fz4 := HK7.out.frozen 4
    have cz0 := HK7.out.cell 0
    have cz1 := HK7.out.cell 1
    have cz2 := HK7.out.cell 2
    have cz3 := HK7.out.cell 3
    have cz4 := HK7.out.cell 4
    simp at cz0 cz1 cz2 cz3 cz4
    have lz := HK7.out.lt
    obtain ⟨W3, HW⟩ : ∃ X, Hid (X = (((((w2.setCell ⟨a7, 0, none⟩ (.slice C0 zS.files.length c0)).setCell ⟨a7, 1, none⟩ (.slice C1 zS.opn.length c1)).setCell ⟨a7, 2, none⟩ (.int .i64 zS.inp)).setCell ⟨a7, 3, none⟩ (.int .i64 zS.out)).setCell ⟨a7, 4, none⟩ (.int .i64 zS.nxt))) := ⟨_, rfl⟩
    rw [← HW.out] at hW hU
    go_upto_region 6 with fail
    rw [← HW.out]
    clear HW lz fz0 fz1 fz2 fz3 fz4 cz0 cz1 cz2 cz3 cz4
    replace HN := Lib.hid (HN.out.upd hU)
    replace HC := Lib.hid (HC.out.upd hU)
    replace HB := Lib.hid (hU.below HB.out h7w)
    replace HK7 := Lib.hid hW
    clear hW hU
    go_wp2_with fail
    refine (example_any _).mono ?_
    rintro e wx ⟨rfl, hbx⟩
    replace HB := Lib.hid (bNext HB.out hbx)
    clear hbx
    go_wp2_with fail
    go_ret
    exact ⟨rfl, HB.out⟩
  have hkb : kindB eof = true := by unfold kindB; simp; omega
  have hop := EOP.out
  rw [if_pos hkb] at hop
  obtain ⟨s, hs⟩ : ∃ s, Hid (s = RdN t eof 0) := ⟨_, rfl⟩
  have hr0 : RdN t eof 0 = Rd t eof 0 false := by
    unfold RdN
    simp
  have hvs := open_valid hop
  rw [← hr0, ← hs.out] at hop hvs
  have EOP' := Lib.hid hop
  have EVS := Lib.hid hvs
  clear hop hvs hr0 hkb
  refine (open_any _ s0 ⟨#[102]⟩ 1 ⟨#[]⟩ eof _ HN.out.at).mono ?_
  rintro e w2 ⟨⟨v', rfl, ho⟩, hbq⟩
  rw [EOP'.out] at ho ⊢
  simp only [sm2, in2, errOf] at ho ⊢
  have hsm := (ho.fresh (bnd EVS.out).1 (bnd EVS.out).2).apart (p := a7) (q := a7) (.inl hl7) (.inl hl7)
  obtain ⟨C0, c0, C1, c1, hv, -⟩ := id hsm
  obtain rfl : v' = .agg #[.slice C0 s.files.length c0, .slice C1 s.opn.length c1, .int .i64 s.inp, .int .i64 s.out, .int .i64 s.nxt] := hv
  replace HN := Lib.hid (HN.out.next hbq)
  replace HK7 := Lib.hid (HK7.out.next hbq)
  replace HB := Lib.hid (bNext HB.out hbq)
  have HC := Lib.hid hsm
  clear ho hsm hbq
  clear hl7
  clear z0 z1 z2 z3 z4
  obtain ⟨hW, hU⟩ := put5 (a0 := .slice C0 s.files.length c0) (a1 := .slice C1 s.opn.length c1) (a2 := .int .i64 s.inp) (a3 := .int .i64 s.out) (a4 := .int .i64 s.nxt) HK7.out
  have fz0 := HK7.out.frozen 0
  have fz1 := HK7.out.frozen 1
  have fz2 := HK7.out.frozen 2
  have fz3 := HK7.out.frozen 3
  have fz4 := HK7.out.frozen 4
  have cz0 := HK7.out.cell 0
  have cz1 := HK7.out.cell 1
  have cz2 := HK7.out.cell 2
  have cz3 := HK7.out.cell 3
  have cz4 := HK7.out.cell 4
  simp at cz0 cz1 cz2 cz3 cz4
  have lz := HK7.out.lt
  obtain ⟨W3, HW⟩ : ∃ X, Hid (X = (((((w2.setCell ⟨a7, 0, none⟩ (.slice C0 s.files.length c0)).setCell ⟨a7, 1, none⟩ (.slice C1 s.opn.length c1)).setCell ⟨a7, 2, none⟩ (.int .i64 s.inp)).setCell ⟨a7, 3, none⟩ (.int .i64 s.out)).setCell ⟨a7, 4, none⟩ (.int .i64 s.nxt))) := ⟨_, rfl⟩
  rw [← HW.out] at hW hU
  go_upto_region 6 with fail
  rw [← HW.out]
  clear HW lz fz0 fz1 fz2 fz3 fz4 cz0 cz1 cz2 cz3 cz4
  replace HN := Lib.hid (HN.out.upd hU)
  replace HC := Lib.hid (HC.out.upd hU)
  replace HB := Lib.hid (hU.below HB.out h7w)
  replace HK7 := Lib.hid hW
  clear hW hU
  go_wp2_with fail
  go_loopw [10] (fun i wr => ∃ k : Nat, k ≤ t.size + 1 ∧ i = .int .i64 (k : Int) ∧ ∃ (s : Sm) (C0 : Option Addr) (c0 : Nat) (C1 : Option Addr) (c1 : Nat), Hid (s = RdN t eof k) ∧ Hid (Below w.heap.size w wr) ∧ Hid (Blk wr a7 25 #[.slice C0 s.files.length c0, .slice C1 s.opn.length c1, .int .i64 s.inp, .int .i64 s.out, .int .i64 s.nxt]) ∧ Hid (ApartS a7 a7 wr (.agg #[.slice C0 s.files.length c0, .slice C1 s.opn.length c1, .int .i64 s.inp, .int .i64 s.out, .int .i64 s.nxt]) s) ∧ Hid (validB s = true)) (fun i _ => t.size + 1 - (intOf i).toNat)
  case atStart => exact ⟨0, by omega, rfl, s, _, _, _, _, hs, HB, HK7, HC, EVS⟩
  case round =>
    clear HB HK7 HC EVS hs EOP EOP' EV0 EN HN
    obtain ⟨k, hk, rfl, s, C0, c0, C1, c1, hs, HB, HK7, HC, EVS⟩ := hrel
    by_cases hlt : k ≤ t.size
    · obtain ⟨u, hu⟩ : ∃ u, Hid (u = RdN t eof (k + 1)) := ⟨_, rfl⟩
      have hv := EVS.out
      rw [hs.out] at hv
      obtain ⟨e1, e2, e3, e4, e5, e6⟩ := next_rd hv hlt
      rw [← hu.out] at e1 e6
      rw [← hs.out] at e1 e2 e3 e4 e5
      have EG := Lib.hid e1
      have EA := Lib.hid e2
      have ER := Lib.hid e3
      have EE := Lib.hid e4
      have EP := Lib.hid e5
      have EU := Lib.hid e6
      clear hv e1 e2 e3 e4 e5 e6
      go_upto_if 68 with fail
      go_cut [11] from 63 to 72 (fun s11 wx => s11 = .int .i64 (wantC t k) ∧ wx = wr)
      case first =>
        by_cases h1 : k < t.size
        · have hw : wantC t k = (t[k].toNat : Int) := by unfold wantC; rw [dif_pos h1]
          go_wp2_with fail
          go_meet
          exact ⟨by rw [hw]; congr 1; have := t[k].toNat_lt; unfold wrap64; omega, rfl⟩
        · have hw : wantC t k = -1 := by unfold wantC; rw [dif_neg h1]
          go_wp2_with fail
          go_meet
          exact ⟨by rw [hw], rfl⟩
      case rest =>
        obtain ⟨rfl, rfl⟩ := hcut
        have hcd : decide (k = t.size) = decide (wantC t k < 0) := by
          by_cases h1 : k < t.size
          · have hw : wantC t k = (t[k].toNat : Int) := by unfold wantC; rw [dif_pos h1]
            rw [hw]
            rw [decide_eq_false (by omega), decide_eq_false (by omega)]
          · have hw : wantC t k = -1 := by unfold wantC; rw [dif_neg h1]
            rw [hw]
            rw [decide_eq_true (by omega), decide_eq_true (by omega)]
        obtain ⟨c, hc⟩ : ∃ c, wantC t k = c := ⟨_, rfl⟩
        rw [hcd] at EA
        rw [hc] at EA EG EP ⊢
        clear hc hcd
        have z0 := HK7.out.cell 0
        have z1 := HK7.out.cell 1
        have z2 := HK7.out.cell 2
        have z3 := HK7.out.cell 3
        have z4 := HK7.out.cell 4
        simp at z0 z1 z2 z3 z4
        go_wp2_with fail
        refine (atEnd_any _ s 2 _ HC.out.at).mono ?_
        rintro e w4 ⟨rfl, hbq⟩
        rw [EA.out]
        replace HK7 := Lib.hid (HK7.out.next hbq)
        replace HC := Lib.hid (HC.out.next hbq)
        replace HB := Lib.hid (bNext HB.out hbq)
        clear hbq
        simp only [boolOf, errOf]
        clear z0 z1 z2 z3 z4
        have z0 := HK7.out.cell 0
        have z1 := HK7.out.cell 1
        have z2 := HK7.out.cell 2
        have z3 := HK7.out.cell 3
        have z4 := HK7.out.cell 4
        simp at z0 z1 z2 z3 z4
        go_wp2_with fail
        refine (rest_any _ s 2 _ HC.out.at).mono ?_
        rintro e w5 ⟨rfl, hbq⟩
        rw [ER.out]
        rw [EE.out]
        replace HK7 := Lib.hid (HK7.out.next hbq)
        replace HC := Lib.hid (HC.out.next hbq)
        replace HB := Lib.hid (bNext HB.out hbq)
        clear hbq
        clear z0 z1 z2 z3 z4
        have z0 := HK7.out.cell 0
        have z1 := HK7.out.cell 1
        have z2 := HK7.out.cell 2
        have z3 := HK7.out.cell 3
        have z4 := HK7.out.cell 4
        simp at z0 z1 z2 z3 z4
        by_cases hlk : k < l.length
        · obtain ⟨ab, ao, rfl, hab, hrow⟩ := HR1.out (by omega)
          obtain ⟨b, hb⟩ : ∃ b, l[k]? = some b := ⟨_, List.getElem?_eq_getElem hlk⟩
          have hx0 := (HB.out.cell (p := ⟨ab, _, none⟩) hab).trans (hrow k b hb 0 _ rfl)
          simp only [Nat.mul_one, Nat.add_zero] at hx0
          clear hb hrow
          cases b
          · go_upto_region 22 with fail
            clear hx0
            have hl7 := HK7.out.lt
            go_wp2_with fail
            refine (get_any _ s 2 _ HC.out.at).mono ?_
            rintro e w6 ⟨⟨v', rfl, ho⟩, hbq⟩
            rw [EG.out] at ho ⊢
            simp only [sm2, in2, errOf] at ho ⊢
            have hsm := (ho.fresh (bnd EU.out).1 (bnd EU.out).2).apart (p := a7) (q := a7) (.inl hl7) (.inl hl7)
            obtain ⟨D0, d0, D1, d1, hv, -⟩ := id hsm
            obtain rfl : v' = .agg #[.slice D0 u.files.length d0, .slice D1 u.opn.length d1, .int .i64 u.inp, .int .i64 u.out, .int .i64 u.nxt] := hv
            replace HK7 := Lib.hid (HK7.out.next hbq)
            replace HC := Lib.hid (HC.out.next hbq)
            replace HB := Lib.hid (bNext HB.out hbq)
            have HD := Lib.hid hsm
            clear ho hsm hbq
            clear hl7
            clear z0 z1 z2 z3 z4
            obtain ⟨W7, HW⟩ : ∃ X, Hid (X = w6.alloc (.cells #[.slice D0 u.files.length d0, .slice D1 u.opn.length d1, .int .i64 u.inp, .int .i64 u.out, .int .i64 u.nxt] 25)) := ⟨_, rfl⟩
            have hbq : Below w6.heap.size w6 W7 := by rw [HW.out]; exact bAlloc _ _
            have kn : Blk W7 w6.heap.size 25 #[.slice D0 u.files.length d0, .slice D1 u.opn.length d1, .int .i64 u.inp, .int .i64 u.out, .int .i64 u.nxt] := by rw [HW.out]; exact Blk.new _ _ _
            replace HK7 := Lib.hid (HK7.out.next hbq)
            replace HC := Lib.hid (HC.out.next hbq)
            replace HD := Lib.hid (HD.out.next hbq)
            replace HB := Lib.hid (bNext HB.out hbq)
            have HK9 := Lib.hid kn
            clear hbq kn
            go_upto_region 23 with fail
            rw [← HW.out]
            clear HW
            have z0 := HK9.out.cell 0
            have z1 := HK9.out.cell 1
            have z2 := HK9.out.cell 2
            have z3 := HK9.out.cell 3
            have z4 := HK9.out.cell 4
            simp at z0 z1 z2 z3 z4
            obtain ⟨hW, hU⟩ := put5 (a0 := .slice D0 u.files.length d0) (a1 := .slice D1 u.opn.length d1) (a2 := .int .i64 u.inp) (a3 := .int .i64 u.out) (a4 := .int .i64 u.nxt) HK7.out
            have fz0 := HK7.out.frozen 0
            have fz1 := HK7.out.frozen 1
            have fz2 := HK7.out.frozen 2
            have fz3 := HK7.out.frozen 3
            have fz4 := HK7.out.frozen 4
            have cz0 := HK7.out.cell 0
            have cz1 := HK7.out.cell 1
            have cz2 := HK7.out.cell 2
            have cz3 := HK7.out.cell 3
            have cz4 := HK7.out.cell 4
            simp at cz0 cz1 cz2 cz3 cz4
            have lz := HK7.out.lt
            obtain ⟨W8, HW⟩ : ∃ X, Hid (X = (((((W7.setCell ⟨a7, 0, none⟩ (.slice D0 u.files.length d0)).setCell ⟨a7, 1, none⟩ (.slice D1 u.opn.length d1)).setCell ⟨a7, 2, none⟩ (.int .i64 u.inp)).setCell ⟨a7, 3, none⟩ (.int .i64 u.out)).setCell ⟨a7, 4, none⟩ (.int .i64 u.nxt))) := ⟨_, rfl⟩
            rw [← HW.out] at hW hU
            go_upto_region 10 with fail
            rw [← HW.out]
            clear HW lz fz0 fz1 fz2 fz3 fz4 cz0 cz1 cz2 cz3 cz4
            replace HC := Lib.hid (HC.out.upd hU)
            replace HD := Lib.hid (HD.out.upd hU)
            replace HB := Lib.hid (hU.below HB.out h7w)
            replace HK7 := Lib.hid hW
            clear hW hU
            go_wp2_with fail
            exact ⟨⟨k + 1, by omega, by go_num, u, D0, d0, D1, d1, hu, HB, HK7, HD, EU⟩, by simp [intOf]; omega⟩
          · have hl7 := HK7.out.lt
            go_upto_region 19 with fail
            clear hx0
            go_wp2_with fail
            refine (peek_any _ s 2 _ HC.out.at).mono ?_
            rintro e w6 ⟨⟨v', rfl, ho⟩, hbq⟩
            rw [EP.out] at ho ⊢
            simp only [sm2, in2, errOf] at ho ⊢
            have hsm := (ho.fresh (bnd EVS.out).1 (bnd EVS.out).2).apart (p := a7) (q := a7) (.inl hl7) (.inl hl7)
            obtain ⟨P0, p0, P1, p1, hv, -⟩ := id hsm
            obtain rfl : v' = .agg #[.slice P0 s.files.length p0, .slice P1 s.opn.length p1, .int .i64 s.inp, .int .i64 s.out, .int .i64 s.nxt] := hv
            replace HK7 := Lib.hid (HK7.out.next hbq)
            replace HC := Lib.hid (HC.out.next hbq)
            replace HB := Lib.hid (bNext HB.out hbq)
            have HP := Lib.hid hsm
            clear ho hsm hbq
            clear hl7
            clear z0 z1 z2 z3 z4
            obtain ⟨W7, HW⟩ : ∃ X, Hid (X = w6.alloc (.cells #[.slice P0 s.files.length p0, .slice P1 s.opn.length p1, .int .i64 s.inp, .int .i64 s.out, .int .i64 s.nxt] 25)) := ⟨_, rfl⟩
            have hbq : Below w6.heap.size w6 W7 := by rw [HW.out]; exact bAlloc _ _
            have kn : Blk W7 w6.heap.size 25 #[.slice P0 s.files.length p0, .slice P1 s.opn.length p1, .int .i64 s.inp, .int .i64 s.out, .int .i64 s.nxt] := by rw [HW.out]; exact Blk.new _ _ _
            replace HK7 := Lib.hid (HK7.out.next hbq)
            replace HC := Lib.hid (HC.out.next hbq)
            replace HP := Lib.hid (HP.out.next hbq)
            replace HB := Lib.hid (bNext HB.out hbq)
            have HK8 := Lib.hid kn
            clear hbq kn
            go_upto_region 20 with fail
            rw [← HW.out]
            clear HW
            have y0 := HK8.out.cell 0
            have y1 := HK8.out.cell 1
            have y2 := HK8.out.cell 2
            have y3 := HK8.out.cell 3
            have y4 := HK8.out.cell 4
            simp at y0 y1 y2 y3 y4
            have z0 := HK7.out.cell 0
            have z1 := HK7.out.cell 1
            have z2 := HK7.out.cell 2
            have z3 := HK7.out.cell 3
            have z4 := HK7.out.cell 4
            simp at z0 z1 z2 z3 z4
            go_wp2_with fail
            refine (same12_any _ _ s _ HP.out.at HC.out.at).mono ?_
            rintro e w8 ⟨rfl, hbq⟩
            replace HK7 := Lib.hid (HK7.out.next hbq)
            replace HC := Lib.hid (HC.out.next hbq)
            replace HP := Lib.hid (HP.out.next hbq)
            replace HK8 := Lib.hid (HK8.out.next hbq)
            replace HB := Lib.hid (bNext HB.out hbq)
            clear hbq
            clear y0 y1 y2 y3 y4
            clear z0 z1 z2 z3 z4
            have z0 := HK7.out.cell 0
            have z1 := HK7.out.cell 1
            have z2 := HK7.out.cell 2
            have z3 := HK7.out.cell 3
            have z4 := HK7.out.cell 4
            simp at z0 z1 z2 z3 z4
            go_upto_region 22 with fail
            have hl7 := HK7.out.lt
            go_wp2_with fail
            refine (get_any _ s 2 _ HC.out.at).mono ?_
            rintro e w9 ⟨⟨v', rfl, ho⟩, hbq⟩
            rw [EG.out] at ho ⊢
            simp only [sm2, in2, errOf] at ho ⊢
            have hsm := (ho.fresh (bnd EU.out).1 (bnd EU.out).2).apart (p := a7) (q := a7) (.inl hl7) (.inl hl7)
            obtain ⟨D0, d0, D1, d1, hv, -⟩ := id hsm
            obtain rfl : v' = .agg #[.slice D0 u.files.length d0, .slice D1 u.opn.length d1, .int .i64 u.inp, .int .i64 u.out, .int .i64 u.nxt] := hv
            replace HK7 := Lib.hid (HK7.out.next hbq)
            replace HC := Lib.hid (HC.out.next hbq)
            replace HP := Lib.hid (HP.out.next hbq)
            replace HK8 := Lib.hid (HK8.out.next hbq)
            replace HB := Lib.hid (bNext HB.out hbq)
            have HD := Lib.hid hsm
            clear ho hsm hbq
            clear hl7
            clear z0 z1 z2 z3 z4
            obtain ⟨W10, HW⟩ : ∃ X, Hid (X = w9.alloc (.cells #[.slice D0 u.files.length d0, .slice D1 u.opn.length d1, .int .i64 u.inp, .int .i64 u.out, .int .i64 u.nxt] 25)) := ⟨_, rfl⟩
            have hbq : Below w9.heap.size w9 W10 := by rw [HW.out]; exact bAlloc _ _
            have kn : Blk W10 w9.heap.size 25 #[.slice D0 u.files.length d0, .slice D1 u.opn.length d1, .int .i64 u.inp, .int .i64 u.out, .int .i64 u.nxt] := by rw [HW.out]; exact Blk.new _ _ _
            replace HK7 := Lib.hid (HK7.out.next hbq)
            replace HC := Lib.hid (HC.out.next hbq)
            replace HP := Lib.hid (HP.out.next hbq)
            replace HK8 := Lib.hid (HK8.out.next hbq)
            replace HD := Lib.hid (HD.out.next hbq)
            replace HB := Lib.hid (bNext HB.out hbq)
            have HK9 := Lib.hid kn
            clear hbq kn
            go_upto_region 23 with fail
            rw [← HW.out]
            clear HW
            have z0 := HK9.out.cell 0
            have z1 := HK9.out.cell 1
            have z2 := HK9.out.cell 2
            have z3 := HK9.out.cell 3
            have z4 := HK9.out.cell 4
            simp at z0 z1 z2 z3 z4
            obtain ⟨hW, hU⟩ := put5 (a0 := .slice D0 u.files.length d0) (a1 := .slice D1 u.opn.length d1) (a2 := .int .i64 u.inp) (a3 := .int .i64 u.out) (a4 := .int .i64 u.nxt) HK7.out
            have fz0 := HK7.out.frozen 0
            have fz1 := HK7.out.frozen 1
            have fz2 := HK7.out.frozen 2
            have fz3 := HK7.out.frozen 3
            have fz4 := HK7.out.frozen 4
            have cz0 := HK7.out.cell 0
            have cz1 := HK7.out.cell 1
            have cz2 := HK7.out.cell 2
            have cz3 := HK7.out.cell 3
            have cz4 := HK7.out.cell 4
            simp at cz0 cz1 cz2 cz3 cz4
            have lz := HK7.out.lt
            obtain ⟨W11, HW⟩ : ∃ X, Hid (X = (((((W10.setCell ⟨a7, 0, none⟩ (.slice D0 u.files.length d0)).setCell ⟨a7, 1, none⟩ (.slice D1 u.opn.length d1)).setCell ⟨a7, 2, none⟩ (.int .i64 u.inp)).setCell ⟨a7, 3, none⟩ (.int .i64 u.out)).setCell ⟨a7, 4, none⟩ (.int .i64 u.nxt))) := ⟨_, rfl⟩
            rw [← HW.out] at hW hU
            go_upto_region 10 with fail
            rw [← HW.out]
            clear HW lz fz0 fz1 fz2 fz3 fz4 cz0 cz1 cz2 cz3 cz4
            replace HC := Lib.hid (HC.out.upd hU)
            replace HP := Lib.hid (HP.out.upd hU)
            replace HD := Lib.hid (HD.out.upd hU)
            replace HB := Lib.hid (hU.below HB.out h7w)
            replace HK7 := Lib.hid hW
            clear hW hU
            go_wp2_with fail
            exact ⟨⟨k + 1, by omega, by go_num, u, D0, d0, D1, d1, hu, HB, HK7, HD, EU⟩, by simp [intOf]; omega⟩
        · go_upto_region 22 with fail
          have hl7 := HK7.out.lt
          go_wp2_with fail
          refine (get_any _ s 2 _ HC.out.at).mono ?_
          rintro e w6 ⟨⟨v', rfl, ho⟩, hbq⟩
          rw [EG.out] at ho ⊢
          simp only [sm2, in2, errOf] at ho ⊢
          have hsm := (ho.fresh (bnd EU.out).1 (bnd EU.out).2).apart (p := a7) (q := a7) (.inl hl7) (.inl hl7)
          obtain ⟨D0, d0, D1, d1, hv, -⟩ := id hsm
          obtain rfl : v' = .agg #[.slice D0 u.files.length d0, .slice D1 u.opn.length d1, .int .i64 u.inp, .int .i64 u.out, .int .i64 u.nxt] := hv
          replace HK7 := Lib.hid (HK7.out.next hbq)
          replace HC := Lib.hid (HC.out.next hbq)
          replace HB := Lib.hid (bNext HB.out hbq)
          have HD := Lib.hid hsm
          clear ho hsm hbq
          clear hl7
          clear z0 z1 z2 z3 z4
          obtain ⟨W7, HW⟩ : ∃ X, Hid (X = w6.alloc (.cells #[.slice D0 u.files.length d0, .slice D1 u.opn.length d1, .int .i64 u.inp, .int .i64 u.out, .int .i64 u.nxt] 25)) := ⟨_, rfl⟩
          have hbq : Below w6.heap.size w6 W7 := by rw [HW.out]; exact bAlloc _ _
          have kn : Blk W7 w6.heap.size 25 #[.slice D0 u.files.length d0, .slice D1 u.opn.length d1, .int .i64 u.inp, .int .i64 u.out, .int .i64 u.nxt] := by rw [HW.out]; exact Blk.new _ _ _
          replace HK7 := Lib.hid (HK7.out.next hbq)
          replace HC := Lib.hid (HC.out.next hbq)
          replace HD := Lib.hid (HD.out.next hbq)
          replace HB := Lib.hid (bNext HB.out hbq)
          have HK9 := Lib.hid kn
          clear hbq kn
          go_upto_region 23 with fail
          rw [← HW.out]
          clear HW
          have z0 := HK9.out.cell 0
          have z1 := HK9.out.cell 1
          have z2 := HK9.out.cell 2
          have z3 := HK9.out.cell 3
          have z4 := HK9.out.cell 4
          simp at z0 z1 z2 z3 z4
          obtain ⟨hW, hU⟩ := put5 (a0 := .slice D0 u.files.length d0) (a1 := .slice D1 u.opn.length d1) (a2 := .int .i64 u.inp) (a3 := .int .i64 u.out) (a4 := .int .i64 u.nxt) HK7.out
          have fz0 := HK7.out.frozen 0
          have fz1 := HK7.out.frozen 1
          have fz2 := HK7.out.frozen 2
          have fz3 := HK7.out.frozen 3
          have fz4 := HK7.out.frozen 4
          have cz0 := HK7.out.cell 0
          have cz1 := HK7.out.cell 1
          have cz2 := HK7.out.cell 2
          have cz3 := HK7.out.cell 3
          have cz4 := HK7.out.cell 4
          simp at cz0 cz1 cz2 cz3 cz4
          have lz := HK7.out.lt
          obtain ⟨W8, HW⟩ : ∃ X, Hid (X = (((((W7.setCell ⟨a7, 0, none⟩ (.slice D0 u.files.length d0)).setCell ⟨a7, 1, none⟩ (.slice D1 u.opn.length d1)).setCell ⟨a7, 2, none⟩ (.int .i64 u.inp)).setCell ⟨a7, 3, none⟩ (.int .i64 u.out)).setCell ⟨a7, 4, none⟩ (.int .i64 u.nxt))) := ⟨_, rfl⟩
          rw [← HW.out] at hW hU
          go_upto_region 10 with fail
          rw [← HW.out]
          clear HW lz fz0 fz1 fz2 fz3 fz4 cz0 cz1 cz2 cz3 cz4
          replace HC := Lib.hid (HC.out.upd hU)
          replace HD := Lib.hid (HD.out.upd hU)
          replace HB := Lib.hid (hU.below HB.out h7w)
          replace HK7 := Lib.hid hW
          clear hW hU
          go_wp2_with fail
          exact ⟨⟨k + 1, by omega, by go_num, u, D0, d0, D1, d1, hu, HB, HK7, HD, EU⟩, by simp [intOf]; omega⟩
    · have hv := EVS.out
      have hk2 : k = t.size + 1 := by omega
      rw [hs.out, hk2] at hv
      obtain ⟨l1, l2⟩ := last_rd hv
      rw [← hk2, ← hs.out] at l1 l2
      clear hv hk2
      by_cases he : eof = 1
      · obtain ⟨e1, e2⟩ := l1 he
        subst he
        have EG := Lib.hid e1
        have EE := Lib.hid e2
        clear l1 l2 e1 e2
        have z0 := HK7.out.cell 0
        have z1 := HK7.out.cell 1
        have z2 := HK7.out.cell 2
        have z3 := HK7.out.cell 3
        have z4 := HK7.out.cell 4
        simp at z0 z1 z2 z3 z4
        have hl7 := HK7.out.lt
        go_wp2_with fail
        refine (get_any _ s 2 _ HC.out.at).mono ?_
        rintro e w4 ⟨⟨v', rfl, ho⟩, hbq⟩
        rw [EG.out] at ho ⊢
        simp only [sm2, in2, errOf] at ho ⊢
        have hsm := (ho.fresh (Nat.zero_le _) (Nat.zero_le _)).apart (p := a7) (q := a7) (.inl hl7) (.inl hl7)
        obtain ⟨D0, d0, D1, d1, hv, -⟩ := id hsm
        obtain rfl : v' = .agg #[.slice D0 zS.files.length d0, .slice D1 zS.opn.length d1, .int .i64 zS.inp, .int .i64 zS.out, .int .i64 zS.nxt] := hv
        replace HK7 := Lib.hid (HK7.out.next hbq)
        replace HC := Lib.hid (HC.out.next hbq)
        replace HB := Lib.hid (bNext HB.out hbq)
        have HD := Lib.hid hsm
        clear ho hsm hbq
        clear hl7
        clear z0 z1 z2 z3 z4
        obtain ⟨W5, HW⟩ : ∃ X, Hid (X = w4.alloc (.cells #[.slice D0 zS.files.length d0, .slice D1 zS.opn.length d1, .int .i64 zS.inp, .int .i64 zS.out, .int .i64 zS.nxt] 25)) := ⟨_, rfl⟩
        have hbq : Below w4.heap.size w4 W5 := by rw [HW.out]; exact bAlloc _ _
        have kn : Blk W5 w4.heap.size 25 #[.slice D0 zS.files.length d0, .slice D1 zS.opn.length d1, .int .i64 zS.inp, .int .i64 zS.out, .int .i64 zS.nxt] := by rw [HW.out]; exact Blk.new _ _ _
        replace HK7 := Lib.hid (HK7.out.next hbq)
        replace HC := Lib.hid (HC.out.next hbq)
        replace HD := Lib.hid (HD.out.next hbq)
        replace HB := Lib.hid (bNext HB.out hbq)
        have HK9 := Lib.hid kn
        clear hbq kn
        go_upto_region 27 with fail
        rw [← HW.out]
        clear HW
        have z0 := HK7.out.cell 0
        have z1 := HK7.out.cell 1
        have z2 := HK7.out.cell 2
        have z3 := HK7.out.cell 3
        have z4 := HK7.out.cell 4
        simp at z0 z1 z2 z3 z4
        go_wp2_with fail
        refine (rest_any _ s 2 _ HC.out.at).mono ?_
        rintro e w6 ⟨rfl, hbq⟩
        rw [EE.out]
        replace HK7 := Lib.hid (HK7.out.next hbq)
        replace HC := Lib.hid (HC.out.next hbq)
        replace HD := Lib.hid (HD.out.next hbq)
        replace HK9 := Lib.hid (HK9.out.next hbq)
        replace HB := Lib.hid (bNext HB.out hbq)
        clear hbq
        clear z0 z1 z2 z3 z4
        go_wp2_with fail
        refine (example_any _).mono ?_
        rintro e wx ⟨rfl, hbx⟩
        replace HB := Lib.hid (bNext HB.out hbx)
        clear hbx
        go_wp2_with fail
        go_ret
        exact ⟨rfl, HB.out⟩
      · obtain ⟨u, e1, e3, e2⟩ := l2 he
        have EG := Lib.hid e1
        have EE := Lib.hid e2
        have EU := Lib.hid e3
        clear l1 l2 e1 e2 e3
        have z0 := HK7.out.cell 0
        have z1 := HK7.out.cell 1
        have z2 := HK7.out.cell 2
        have z3 := HK7.out.cell 3
        have z4 := HK7.out.cell 4
        simp at z0 z1 z2 z3 z4
        have hl7 := HK7.out.lt
        go_wp2_with fail
        refine (get_any _ s 2 _ HC.out.at).mono ?_
        rintro e w4 ⟨⟨v', rfl, ho⟩, hbq⟩
        rw [EG.out] at ho ⊢
        simp only [sm2, in2, errOf] at ho ⊢
        have hsm := (ho.fresh (bnd EU.out).1 (bnd EU.out).2).apart (p := a7) (q := a7) (.inl hl7) (.inl hl7)
        obtain ⟨D0, d0, D1, d1, hv, -⟩ := id hsm
        obtain rfl : v' = .agg #[.slice D0 u.files.length d0, .slice D1 u.opn.length d1, .int .i64 u.inp, .int .i64 u.out, .int .i64 u.nxt] := hv
        replace HK7 := Lib.hid (HK7.out.next hbq)
        replace HC := Lib.hid (HC.out.next hbq)
        replace HB := Lib.hid (bNext HB.out hbq)
        have HD := Lib.hid hsm
        clear ho hsm hbq
        clear hl7
        clear z0 z1 z2 z3 z4
        obtain ⟨W5, HW⟩ : ∃ X, Hid (X = w4.alloc (.cells #[.slice D0 u.files.length d0, .slice D1 u.opn.length d1, .int .i64 u.inp, .int .i64 u.out, .int .i64 u.nxt] 25)) := ⟨_, rfl⟩
        have hbq : Below w4.heap.size w4 W5 := by rw [HW.out]; exact bAlloc _ _
        have kn : Blk W5 w4.heap.size 25 #[.slice D0 u.files.length d0, .slice D1 u.opn.length d1, .int .i64 u.inp, .int .i64 u.out, .int .i64 u.nxt] := by rw [HW.out]; exact Blk.new _ _ _
        replace HK7 := Lib.hid (HK7.out.next hbq)
        replace HC := Lib.hid (HC.out.next hbq)
        replace HD := Lib.hid (HD.out.next hbq)
        replace HB := Lib.hid (bNext HB.out hbq)
        have HK9 := Lib.hid kn
        clear hbq kn
        go_upto_region 27 with fail
        rw [← HW.out]
        clear HW
        have z0 := HK7.out.cell 0
        have z1 := HK7.out.cell 1
        have z2 := HK7.out.cell 2
        have z3 := HK7.out.cell 3
        have z4 := HK7.out.cell 4
        simp at z0 z1 z2 z3 z4
        go_wp2_with fail
        refine (rest_any _ s 2 _ HC.out.at).mono ?_
        rintro e w6 ⟨rfl, hbq⟩
        rw [EE.out]
        replace HK7 := Lib.hid (HK7.out.next hbq)
        replace HC := Lib.hid (HC.out.next hbq)
        replace HD := Lib.hid (HD.out.next hbq)
        replace HK9 := Lib.hid (HK9.out.next hbq)
        replace HB := Lib.hid (bNext HB.out hbq)
        clear hbq
        clear z0 z1 z2 z3 z4
        go_wp2_with fail
        refine (example_any _).mono ?_
        rintro e wx ⟨rfl, hbx⟩
        replace HB := Lib.hid (bNext HB.out hbx)
        clear hbx
        go_wp2_with fail
        go_ret
        exact ⟨rfl, HB.out⟩
end Go.Proofs.Ytklpghpfdeojeaa
