/-
  The law of StreamsApart.
-/
import Derived.Test.YtklpghpfdeojeaaCc
import Derived.Test.YtklpghpfdeojeaaCf
import Derived.Test.YtklpghpfdeojeaaWa
import Derived.Deep.Cut
namespace Go.Proofs.Ytklpghpfdeojeaa
open Go.RowKit

theorem ApartS.more2 {p r : Nat} {w : World} {v : Value} {s : Sm} (h : ApartS p p w v s) (hr : w.heap.size ≤ r) : ApartS p r w v s := by
  obtain ⟨A0, c0, A1, c1, e, h2⟩ := h
  exact ⟨A0, c0, A1, c1, e, fun W' hk hz => h2 W' (fun g h1 _ h3 => hk g h1 (by omega) h3) hz⟩

set_option maxHeartbeats 8000000 in
set_option maxRecDepth 100000 in
theorem law_apart (t0 : ByteArray) (K1 : Option Addr) (k1 : Nat) (l : List Bool) (w : World) (hz : t0.size ≤ maxLen)
    (hlb : l.length * 1 ≤ reachBytes) (hr : RowAt w w.heap.size 1 (fun b : Bool => [.bool b]) K1 l) :
    Calls Try.prog 5 #[.string t0, .slice K1 l.length k1] w fun e w' => e = .returned (.bool true) ∧ Below w.heap.size w w' := by
  simp only [reachBytes] at hlb
  unfold maxLen at hz
  have HR1 := Lib.hid hr
  clear hr
  obtain ⟨m, hm⟩ : ∃ m : Int, Hid (m = if 100 < (t0.size : Int) then 100 else (t0.size : Int)) := ⟨_, rfl⟩
  have hm2 : m ≤ 100 := by rw [hm.out]; split <;> omega
  obtain ⟨t, ht⟩ : ∃ t, Hid (t = t0.extract 0 m.toNat) := ⟨_, rfl⟩
  have hts : t.size ≤ 100 := by rw [ht.out, ByteArray.size_extract]; omega
  go_enter Try.func5, Try.ntmps5
  go_upto_region 2 with fail
  rw [← hm.out, ← ht.out]
  clear ht hm hm2
  have hfz : FilesAt (w.alloc (.cells #[.string ⟨#[102]⟩, .string t] 35)) (w.alloc (.cells #[.string ⟨#[102]⟩, .string t] 35)).heap.size (some ⟨w.heap.size, 0, none⟩) 1 [⟨⟨#[102]⟩, t⟩] := by
    refine ⟨⟨rfl, by omega⟩, fun _ => ⟨w.heap.size, 0, rfl, by simp, fun i x hx => ?_⟩⟩
    have hk := Blk.new w 35 #[.string ⟨#[102]⟩, .string t]
    match i, hx with
    | 0, hx =>
      simp at hx
      subst hx
      exact ⟨hk.cell 0, hk.cell 1⟩
    | i + 1, hx => simp at hx
  have HFZ := Lib.hid hfz
  have HB := Lib.hid (bAlloc w (.cells #[.string ⟨#[102]⟩, .string t] 35))
  clear hfz
  obtain ⟨s0, hs0⟩ : ∃ s, Hid (S0 t = s) := ⟨_, rfl⟩
  obtain ⟨sa, hsa⟩ : ∃ s, Hid (Ra t = s) := ⟨_, rfl⟩
  obtain ⟨s, hs⟩ : ∃ s, Hid (s = Ap t 0 0) := ⟨_, rfl⟩
  have hnv : newV [⟨⟨#[102]⟩, t⟩] = .ok s0 := by rw [← hs0.out]; exact (new_f t).trans (if_pos (by omega))
  have EN := Lib.hid hnv
  have hv0 : validB s0 = true := by rw [← hs0.out]; exact valid_S0 (by omega)
  have EV0 := Lib.hid hv0
  have hop : openV s0 ⟨#[102]⟩ 1 ⟨#[97]⟩ 3 = .ok (sa, 2) := by rw [← hs0.out, ← hsa.out]; exact open_a t (by omega)
  have EOA := Lib.hid hop
  have EVA := Lib.hid (open_valid hop)
  have hob : openV sa ⟨#[102]⟩ 1 ⟨#[98]⟩ 3 = .ok (s, 3) := by rw [← hsa.out, hs.out]; exact open_b t (by omega)
  have EOB := Lib.hid hob
  have hvs := open_valid hob
  have EVS := Lib.hid hvs
  rw [hs.out] at hvs
  obtain ⟨f1, f2⟩ := find_ap hvs
  rw [← hs.out] at f1 f2
  have EF1 := Lib.hid f1
  have EF2 := Lib.hid f2
  clear hnv hv0 hop hob hs0 hsa hvs f1 f2
  go_wp2_with fail
  refine (new_any (some ⟨w.heap.size, 0, none⟩) 1 1 [⟨⟨#[102]⟩, t⟩] _ HFZ.out ⟨by omega, fun e => by cases e⟩ (by omega)).mono ?_
  rintro e w1 ⟨⟨v', rfl, ho⟩, hbq⟩
  rw [EN.out] at ho ⊢
  simp only [smOf, errOf] at ho ⊢
  have hsm := ho.fresh (bnd EV0.out).1 (bnd EV0.out).2
  obtain ⟨N0, n0, N1, n1, hv, -⟩ := id hsm
  obtain rfl : v' = .agg #[.slice N0 s0.files.length n0, .slice N1 s0.opn.length n1, .int .i64 s0.inp, .int .i64 s0.out, .int .i64 s0.nxt] := hv
  replace HB := Lib.hid (bNext HB.out hbq)
  clear ho
  obtain ⟨a7, ha7⟩ : ∃ a, a = w1.heap.size := ⟨_, rfl⟩
  have hz7 := hbq.size
  have HN := Lib.hid (hsm.apart (p := a7) (q := a7) (.inr (by omega)) (.inr (by omega)))
  have h7w : w.heap.size ≤ a7 := by simp at hz7; omega
  clear hsm hbq hz7 HFZ
  obtain ⟨W0, HW⟩ : ∃ X, Hid (X = w1.alloc (.cells #[.slice N0 s0.files.length n0, .slice N1 s0.opn.length n1, .int .i64 s0.inp, .int .i64 s0.out, .int .i64 s0.nxt] 25)) := ⟨_, rfl⟩
  have hbq : Below w1.heap.size w1 W0 := by rw [HW.out]; exact bAlloc _ _
  have HK7 := Lib.hid (show Blk W0 a7 25 #[.slice N0 s0.files.length n0, .slice N1 s0.opn.length n1, .int .i64 s0.inp, .int .i64 s0.out, .int .i64 s0.nxt] by rw [HW.out, ha7]; exact Blk.new _ _ _)
  go_upto_region 3 with fail
  rw [← HW.out, ← ha7]
  clear HW ha7
  replace HN := Lib.hid (HN.out.next hbq)
  replace HB := Lib.hid (bNext HB.out hbq)
  clear hbq
  have z0 := HK7.out.cell 0
  have z1 := HK7.out.cell 1
  have z2 := HK7.out.cell 2
  have z3 := HK7.out.cell 3
  have z4 := HK7.out.cell 4
  simp at z0 z1 z2 z3 z4
  have hl7 := HK7.out.lt
  go_wp2_with fail
  refine (open_any _ s0 ⟨#[102]⟩ 1 ⟨#[97]⟩ 3 _ HN.out.at).mono ?_
  rintro e w2 ⟨⟨v', rfl, ho⟩, hbq⟩
  rw [EOA.out] at ho ⊢
  simp only [sm2, in2, errOf] at ho ⊢
  have hsm := (ho.fresh (bnd EVA.out).1 (bnd EVA.out).2).apart (p := a7) (q := a7) (.inl hl7) (.inl hl7)
  obtain ⟨M0, m0, M1, m1, hv, -⟩ := id hsm
  obtain rfl : v' = .agg #[.slice M0 sa.files.length m0, .slice M1 sa.opn.length m1, .int .i64 sa.inp, .int .i64 sa.out, .int .i64 sa.nxt] := hv
  replace HN := Lib.hid (HN.out.next hbq)
  replace HK7 := Lib.hid (HK7.out.next hbq)
  replace HB := Lib.hid (bNext HB.out hbq)
  have HM := Lib.hid hsm
  clear ho hsm hbq
  clear hl7
  clear z0 z1 z2 z3 z4
  obtain ⟨hW, hU⟩ := put5 (a0 := .slice M0 sa.files.length m0) (a1 := .slice M1 sa.opn.length m1) (a2 := .int .i64 sa.inp) (a3 := .int .i64 sa.out) (a4 := .int .i64 sa.nxt) HK7.out
  have fz0 := HK7.out.frozen 0
  have fz1 := HK7.out.frozen 1
  have fz2 := HK7.out.frozen 2
  have fz3 := HK7.out.frozen 3
  have fz4 := HK7.out.frozen 4
  have cz0 := HK7.out.cell 0
  have cz1 := HK7.out.cell 1
  have cz2 := HK7.out.cell 2
  have cz3 := HK7.out.cell 3
  have cz4 := HK7.out.cell 4
  simp at cz0 cz1 cz2 cz3 cz4
  have lz := HK7.out.lt
  obtain ⟨W3, HW⟩ : ∃ X, Hid (X = (((((w2.setCell ⟨a7, 0, none⟩ (.slice M0 sa.files.length m0)).setCell ⟨a7, 1, none⟩ (.slice M1 sa.opn.length m1)).setCell ⟨a7, 2, none⟩ (.int .i64 sa.inp)).setCell ⟨a7, 3, none⟩ (.int .i64 sa.out)).setCell ⟨a7, 4, none⟩ (.int .i64 sa.nxt))) := ⟨_, rfl⟩
  rw [← HW.out] at hW hU
  go_upto_region 4 with fail
  rw [← HW.out]
  clear HW lz fz0 fz1 fz2 fz3 fz4 cz0 cz1 cz2 cz3 cz4
  replace HN := Lib.hid (HN.out.upd hU)
  replace HM := Lib.hid (HM.out.upd hU)
  replace HB := Lib.hid (hU.below HB.out h7w)
  replace HK7 := Lib.hid hW
  clear hW hU
  have z0 := HK7.out.cell 0
  have z1 := HK7.out.cell 1
  have z2 := HK7.out.cell 2
  have z3 := HK7.out.cell 3
  have z4 := HK7.out.cell 4
  simp at z0 z1 z2 z3 z4
  have hl7 := HK7.out.lt
  go_wp2_with fail
  refine (open_any _ sa ⟨#[102]⟩ 1 ⟨#[98]⟩ 3 _ HM.out.at).mono ?_
  rintro e w4 ⟨⟨v', rfl, ho⟩, hbq⟩
  rw [EOB.out] at ho ⊢
  simp only [sm2, in2, errOf] at ho ⊢
  have hsm := (ho.fresh (bnd EVS.out).1 (bnd EVS.out).2).apart (p := a7) (q := a7) (.inl hl7) (.inl hl7)
  obtain ⟨C0, c0, C1, c1, hv, -⟩ := id hsm
  obtain rfl : v' = .agg #[.slice C0 s.files.length c0, .slice C1 s.opn.length c1, .int .i64 s.inp, .int .i64 s.out, .int .i64 s.nxt] := hv
  replace HN := Lib.hid (HN.out.next hbq)
  replace HK7 := Lib.hid (HK7.out.next hbq)
  replace HM := Lib.hid (HM.out.next hbq)
  replace HB := Lib.hid (bNext HB.out hbq)
  have HC := Lib.hid hsm
  clear ho hsm hbq
  clear hl7
  clear z0 z1 z2 z3 z4
  obtain ⟨hW, hU⟩ := put5 (a0 := .slice C0 s.files.length c0) (a1 := .slice C1 s.opn.length c1) (a2 := .int .i64 s.inp) (a3 := .int .i64 s.out) (a4 := .int .i64 s.nxt) HK7.out
  have fz0 := HK7.out.frozen 0
  have fz1 := HK7.out.frozen 1
  have fz2 := HK7.out.frozen 2
  have fz3 := HK7.out.frozen 3
  have fz4 := HK7.out.frozen 4
  have cz0 := HK7.out.cell 0
  have cz1 := HK7.out.cell 1
  have cz2 := HK7.out.cell 2
  have cz3 := HK7.out.cell 3
  have cz4 := HK7.out.cell 4
  simp at cz0 cz1 cz2 cz3 cz4
  have lz := HK7.out.lt
  obtain ⟨W5, HW⟩ : ∃ X, Hid (X = (((((w4.setCell ⟨a7, 0, none⟩ (.slice C0 s.files.length c0)).setCell ⟨a7, 1, none⟩ (.slice C1 s.opn.length c1)).setCell ⟨a7, 2, none⟩ (.int .i64 s.inp)).setCell ⟨a7, 3, none⟩ (.int .i64 s.out)).setCell ⟨a7, 4, none⟩ (.int .i64 s.nxt))) := ⟨_, rfl⟩
  rw [← HW.out] at hW hU
  go_upto_region 5 with fail
  rw [← HW.out]
  clear HW lz fz0 fz1 fz2 fz3 fz4 cz0 cz1 cz2 cz3 cz4
  replace HN := Lib.hid (HN.out.upd hU)
  replace HM := Lib.hid (HM.out.upd hU)
  replace HC := Lib.hid (HC.out.upd hU)
  replace HB := Lib.hid (hU.below HB.out h7w)
  replace HK7 := Lib.hid hW
  clear hW hU
  clear HN HM EV0 EVA EN EOA EOB
  have z0 := HK7.out.cell 0
  have z1 := HK7.out.cell 1
  have z2 := HK7.out.cell 2
  have z3 := HK7.out.cell 3
  have z4 := HK7.out.cell 4
  simp at z0 z1 z2 z3 z4
  go_wp2_with fail
  refine (find_any _ s ⟨#[97]⟩ _ HC.out.at).mono ?_
  rintro e w6 ⟨rfl, hbq⟩
  rw [EF1.out]
  replace HK7 := Lib.hid (HK7.out.next hbq)
  replace HC := Lib.hid (HC.out.next hbq)
  replace HB := Lib.hid (bNext HB.out hbq)
  clear hbq
  simp only [Option.getD_some, Option.isSome_some]
  clear z0 z1 z2 z3 z4
  have z0 := HK7.out.cell 0
  have z1 := HK7.out.cell 1
  have z2 := HK7.out.cell 2
  have z3 := HK7.out.cell 3
  have z4 := HK7.out.cell 4
  simp at z0 z1 z2 z3 z4
  go_wp2_with fail
  refine (find_any _ s ⟨#[98]⟩ _ HC.out.at).mono ?_
  rintro e w7 ⟨rfl, hbq⟩
  rw [EF2.out]
  replace HK7 := Lib.hid (HK7.out.next hbq)
  replace HC := Lib.hid (HC.out.next hbq)
  replace HB := Lib.hid (bNext HB.out hbq)
  clear hbq
  simp only [Option.getD_some, Option.isSome_some]
  clear z0 z1 z2 z3 z4
  obtain ⟨a15, ha15⟩ : ∃ a, a = w7.heap.size := ⟨_, rfl⟩
  have h15 : a7 < a15 := by rw [ha15]; exact HK7.out.lt
  have h715 : a7 ≠ a15 := by omega
  have h157 : a15 ≠ a7 := by omega
  have h15w : w.heap.size ≤ a15 := by omega
  replace HC := Lib.hid (HC.out.more2 (r := a15) (by omega))
  obtain ⟨W9, HW⟩ : ∃ X, Hid (X = w7.alloc (.cells #[.int .i64 0, .int .i64 0] 46)) := ⟨_, rfl⟩
  have hbq : Below w7.heap.size w7 W9 := by rw [HW.out]; exact bAlloc _ _
  have HK15 := Lib.hid (show Blk W9 a15 46 #[.int .i64 0, .int .i64 0] by rw [HW.out, ha15]; exact Blk.new _ _ _)
  go_upto_region 12 with fail
  rw [← HW.out, ← ha15]
  clear HW ha15
  replace HK7 := Lib.hid (HK7.out.next hbq)
  replace HC := Lib.hid (HC.out.next hbq)
  replace HB := Lib.hid (bNext HB.out hbq)
  clear hbq EF1 EF2
  go_wp2_with fail
  go_loopw [16] (fun i wr => ∃ k : Nat, k ≤ 100 ∧ k ≤ l.length ∧ i = .int .i64 (k : Int) ∧ ∃ (p q : Nat) (s : Sm) (C0 : Option Addr) (c0 : Nat) (C1 : Option Addr) (c1 : Nat), p ≤ t.size ∧ q ≤ t.size ∧ Hid (s = Ap t p q) ∧ Hid (Below w.heap.size w wr) ∧ Hid (Blk wr a7 25 #[.slice C0 s.files.length c0, .slice C1 s.opn.length c1, .int .i64 s.inp, .int .i64 s.out, .int .i64 s.nxt]) ∧ Hid (Blk wr a15 46 #[.int .i64 (p : Int), .int .i64 (q : Int)]) ∧ Hid (ApartS a7 a15 wr (.agg #[.slice C0 s.files.length c0, .slice C1 s.opn.length c1, .int .i64 s.inp, .int .i64 s.out, .int .i64 s.nxt]) s) ∧ Hid (validB s = true)) (fun i _ => 100 - (intOf i).toNat)
  case atStart => exact ⟨0, by omega, by omega, rfl, 0, 0, s, _, _, _, _, by omega, by omega, hs, HB, HK7, HK15, HC, EVS⟩
  case round =>
    clear HB HK7 HK15 HC EVS hs
    obtain ⟨k, hk, hkl, rfl, p, q, s, C0, c0, C1, c1, hp, hq, hs, HB, HK7, HK15, HC, EVS⟩ := hrel
    by_cases hlt : k < l.length
    · by_cases h100 : k < 100
      · obtain ⟨ab, ao, rfl, hab, hrow⟩ := HR1.out (by omega)
        obtain ⟨b, hb⟩ : ∃ b, l[k]? = some b := ⟨_, List.getElem?_eq_getElem hlt⟩
        have hx0 := (HB.out.cell (p := ⟨ab, _, none⟩) hab).trans (hrow k b hb 0 _ rfl)
        simp only [Nat.mul_one, Nat.add_zero] at hx0
        clear hb hrow
        cases b
        · by_cases hps : p < t.size
          · obtain ⟨u, hu⟩ : ∃ u, Hid (u = Ap t (p + 1) q) := ⟨_, rfl⟩
            have hv := EVS.out
            rw [hs.out] at hv
            have e1 := get_a hv
            rw [if_pos hps] at e1
            have hw : wantC t p = wrap64 (t[p].toNat : Int) := by unfold wantC; rw [dif_pos hps]; have := t[p].toNat_lt; unfold wrap64; omega
            rw [hw, ← hu.out, ← hs.out] at e1
            obtain ⟨c, hcw⟩ : ∃ c, wrap64 (t[p].toNat : Int) = c := ⟨_, rfl⟩
            rw [hcw] at e1
            have EG := Lib.hid e1
            have EU := Lib.hid (get_valid e1)
            clear hv e1 hw
            have z0 := HK7.out.cell 0
            have z1 := HK7.out.cell 1
            have z2 := HK7.out.cell 2
            have z3 := HK7.out.cell 3
            have z4 := HK7.out.cell 4
            simp at z0 z1 z2 z3 z4
            have hl7 := HK7.out.lt
            have hl15 := HK15.out.lt
            go_wp2_with fail
            refine (get_any _ s 2 _ HC.out.at).mono ?_
            rintro e w8 ⟨⟨v', rfl, ho⟩, hbq⟩
            rw [EG.out] at ho ⊢
            simp only [sm2, in2, errOf] at ho ⊢
            have hsm := (ho.fresh (bnd EU.out).1 (bnd EU.out).2).apart (p := a7) (q := a15) (.inl hl7) (.inl hl15)
            obtain ⟨D0, d0, D1, d1, hv, -⟩ := id hsm
            obtain rfl : v' = .agg #[.slice D0 u.files.length d0, .slice D1 u.opn.length d1, .int .i64 u.inp, .int .i64 u.out, .int .i64 u.nxt] := hv
            replace HK7 := Lib.hid (HK7.out.next hbq)
            replace HC := Lib.hid (HC.out.next hbq)
            replace HK15 := Lib.hid (HK15.out.next hbq)
            replace HB := Lib.hid (bNext HB.out hbq)
            have HD := Lib.hid hsm
            clear ho hsm hbq
            clear hl7 hx0
            clear z0 z1 z2 z3 z4
            have h9 : a15 ≠ w8.heap.size := by have := HK15.out.lt; omega
            obtain ⟨W9, HW⟩ : ∃ X, Hid (X = w8.alloc (.cells #[.slice D0 u.files.length d0, .slice D1 u.opn.length d1, .int .i64 u.inp, .int .i64 u.out, .int .i64 u.nxt] 25)) := ⟨_, rfl⟩
            have hbq : Below w8.heap.size w8 W9 := by rw [HW.out]; exact bAlloc _ _
            have kn : Blk W9 w8.heap.size 25 #[.slice D0 u.files.length d0, .slice D1 u.opn.length d1, .int .i64 u.inp, .int .i64 u.out, .int .i64 u.nxt] := by rw [HW.out]; exact Blk.new _ _ _
            replace HK7 := Lib.hid (HK7.out.next hbq)
            replace HC := Lib.hid (HC.out.next hbq)
            replace HK15 := Lib.hid (HK15.out.next hbq)
            replace HD := Lib.hid (HD.out.next hbq)
            replace HB := Lib.hid (bNext HB.out hbq)
            have HK9 := Lib.hid kn
            clear hbq kn
            go_upto_region 19 with fail
            rw [← HW.out]
            clear HW
            have z0 := HK9.out.cell 0
            have z1 := HK9.out.cell 1
            have z2 := HK9.out.cell 2
            have z3 := HK9.out.cell 3
            have z4 := HK9.out.cell 4
            simp at z0 z1 z2 z3 z4
            have y0 := HK15.out.cell 0
            have y1 := HK15.out.cell 1
            simp at y0 y1
            clear hl15
            have hl15 := HK15.out.lt
            have fy0 := HK15.out.frozen 0
            have fy1 := HK15.out.frozen 1
            have hU := (Upd.refl a15 W9).set 0 (.int .i64 ((p : Int) + 1))
            have hk15 := HK15.out.set_ 0 (.int .i64 ((p : Int) + 1))
            obtain ⟨X1, HW⟩ : ∃ X, Hid (X = W9.setCell ⟨a15, 0, none⟩ (.int .i64 ((p : Int) + 1))) := ⟨_, rfl⟩
            rw [← HW.out] at hU hk15
            go_upto_region 23 with fail
            rw [← HW.out]
            clear HW y0 y1 fy0 fy1 hl15
            replace HB := Lib.hid (hU.below HB.out h15w)
            replace HK7 := Lib.hid (hU.blk HK7.out h715)
            replace HK9 := Lib.hid (hU.blk HK9.out (Ne.symm h9))
            replace HC := Lib.hid (HC.out.upd' hU)
            replace HD := Lib.hid (HD.out.upd' hU)
            replace HK15 := Lib.hid (show Blk X1 a15 46 #[.int .i64 ((p + 1 : Nat) : Int), .int .i64 (q : Int)] by simpa using hk15)
            clear hU hk15
            clear z0 z1 z2 z3 z4
            have z0 := HK9.out.cell 0
            have z1 := HK9.out.cell 1
            have z2 := HK9.out.cell 2
            have z3 := HK9.out.cell 3
            have z4 := HK9.out.cell 4
            simp at z0 z1 z2 z3 z4
            obtain ⟨hW, hU⟩ := put5 (a0 := .slice D0 u.files.length d0) (a1 := .slice D1 u.opn.length d1) (a2 := .int .i64 u.inp) (a3 := .int .i64 u.out) (a4 := .int .i64 u.nxt) HK7.out
            have fz0 := HK7.out.frozen 0
            have fz1 := HK7.out.frozen 1
            have fz2 := HK7.out.frozen 2
            have fz3 := HK7.out.frozen 3
            have fz4 := HK7.out.frozen 4
            have cz0 := HK7.out.cell 0
            have cz1 := HK7.out.cell 1
            have cz2 := HK7.out.cell 2
            have cz3 := HK7.out.cell 3
            have cz4 := HK7.out.cell 4
            simp at cz0 cz1 cz2 cz3 cz4
            have lz := HK7.out.lt
            obtain ⟨W10, HW⟩ : ∃ X, Hid (X = (((((X1.setCell ⟨a7, 0, none⟩ (.slice D0 u.files.length d0)).setCell ⟨a7, 1, none⟩ (.slice D1 u.opn.length d1)).setCell ⟨a7, 2, none⟩ (.int .i64 u.inp)).setCell ⟨a7, 3, none⟩ (.int .i64 u.out)).setCell ⟨a7, 4, none⟩ (.int .i64 u.nxt))) := ⟨_, rfl⟩
            rw [← HW.out] at hW hU
            go_upto_region 14 with fail
            rw [← HW.out]
            clear HW lz fz0 fz1 fz2 fz3 fz4 cz0 cz1 cz2 cz3 cz4
            replace HC := Lib.hid (HC.out.upd hU)
            replace HK15 := Lib.hid (hU.blk HK15.out h157)
            replace HD := Lib.hid (HD.out.upd hU)
            replace HB := Lib.hid (hU.below HB.out h7w)
            replace HK7 := Lib.hid hW
            clear hW hU
            go_wp2_with fail
            exact ⟨⟨k + 1, by omega, by omega, by go_num, (p + 1), q, u, D0, d0, D1, d1, by omega, by omega, hu, HB, HK7, HK15, HD, EU⟩, by simp [intOf]; omega⟩
          · have hv := EVS.out
            rw [hs.out] at hv
            have e1 := get_a hv
            rw [if_neg hps] at e1
            have hw : wantC t p = -1 := by unfold wantC; rw [dif_neg hps]
            rw [hw, ← hs.out] at e1
            have EG := Lib.hid e1
            have EU := Lib.hid (get_valid e1)
            clear hv e1 hw
            have z0 := HK7.out.cell 0
            have z1 := HK7.out.cell 1
            have z2 := HK7.out.cell 2
            have z3 := HK7.out.cell 3
            have z4 := HK7.out.cell 4
            simp at z0 z1 z2 z3 z4
            have hl7 := HK7.out.lt
            have hl15 := HK15.out.lt
            go_wp2_with fail
            refine (get_any _ s 2 _ HC.out.at).mono ?_
            rintro e w8 ⟨⟨v', rfl, ho⟩, hbq⟩
            rw [EG.out] at ho ⊢
            simp only [sm2, in2, errOf] at ho ⊢
            have hsm := (ho.fresh (bnd EU.out).1 (bnd EU.out).2).apart (p := a7) (q := a15) (.inl hl7) (.inl hl15)
            obtain ⟨D0, d0, D1, d1, hv, -⟩ := id hsm
            obtain rfl : v' = .agg #[.slice D0 s.files.length d0, .slice D1 s.opn.length d1, .int .i64 s.inp, .int .i64 s.out, .int .i64 s.nxt] := hv
            replace HK7 := Lib.hid (HK7.out.next hbq)
            replace HC := Lib.hid (HC.out.next hbq)
            replace HK15 := Lib.hid (HK15.out.next hbq)
            replace HB := Lib.hid (bNext HB.out hbq)
            have HD := Lib.hid hsm
            clear ho hsm hbq
            clear hl7 hx0
            clear z0 z1 z2 z3 z4
            have h9 : a15 ≠ w8.heap.size := by have := HK15.out.lt; omega
            obtain ⟨W9, HW⟩ : ∃ X, Hid (X = w8.alloc (.cells #[.slice D0 s.files.length d0, .slice D1 s.opn.length d1, .int .i64 s.inp, .int .i64 s.out, .int .i64 s.nxt] 25)) := ⟨_, rfl⟩
            have hbq : Below w8.heap.size w8 W9 := by rw [HW.out]; exact bAlloc _ _
            have kn : Blk W9 w8.heap.size 25 #[.slice D0 s.files.length d0, .slice D1 s.opn.length d1, .int .i64 s.inp, .int .i64 s.out, .int .i64 s.nxt] := by rw [HW.out]; exact Blk.new _ _ _
            replace HK7 := Lib.hid (HK7.out.next hbq)
            replace HC := Lib.hid (HC.out.next hbq)
            replace HK15 := Lib.hid (HK15.out.next hbq)
            replace HD := Lib.hid (HD.out.next hbq)
            replace HB := Lib.hid (bNext HB.out hbq)
            have HK9 := Lib.hid kn
            clear hbq kn
            go_upto_region 19 with fail
            rw [← HW.out]
            clear HW
            have z0 := HK9.out.cell 0
            have z1 := HK9.out.cell 1
            have z2 := HK9.out.cell 2
            have z3 := HK9.out.cell 3
            have z4 := HK9.out.cell 4
            simp at z0 z1 z2 z3 z4
            have y0 := HK15.out.cell 0
            have y1 := HK15.out.cell 1
            simp at y0 y1
            clear hl15
            have hl15 := HK15.out.lt
            have fy0 := HK15.out.frozen 0
            have fy1 := HK15.out.frozen 1
            go_upto_region 23 with fail
            clear y0 y1 fy0 fy1 hl15
            obtain ⟨hW, hU⟩ := put5 (a0 := .slice D0 s.files.length d0) (a1 := .slice D1 s.opn.length d1) (a2 := .int .i64 s.inp) (a3 := .int .i64 s.out) (a4 := .int .i64 s.nxt) HK7.out
            have fz0 := HK7.out.frozen 0
            have fz1 := HK7.out.frozen 1
            have fz2 := HK7.out.frozen 2
            have fz3 := HK7.out.frozen 3
            have fz4 := HK7.out.frozen 4
            have cz0 := HK7.out.cell 0
            have cz1 := HK7.out.cell 1
            have cz2 := HK7.out.cell 2
            have cz3 := HK7.out.cell 3
            have cz4 := HK7.out.cell 4
            simp at cz0 cz1 cz2 cz3 cz4
            have lz := HK7.out.lt
            obtain ⟨W10, HW⟩ : ∃ X, Hid (X = (((((W9.setCell ⟨a7, 0, none⟩ (.slice D0 s.files.length d0)).setCell ⟨a7, 1, none⟩ (.slice D1 s.opn.length d1)).setCell ⟨a7, 2, none⟩ (.int .i64 s.inp)).setCell ⟨a7, 3, none⟩ (.int .i64 s.out)).setCell ⟨a7, 4, none⟩ (.int .i64 s.nxt))) := ⟨_, rfl⟩
            rw [← HW.out] at hW hU
            go_upto_region 14 with fail
            rw [← HW.out]
            clear HW lz fz0 fz1 fz2 fz3 fz4 cz0 cz1 cz2 cz3 cz4
            replace HC := Lib.hid (HC.out.upd hU)
            replace HK15 := Lib.hid (hU.blk HK15.out h157)
            replace HD := Lib.hid (HD.out.upd hU)
            replace HB := Lib.hid (hU.below HB.out h7w)
            replace HK7 := Lib.hid hW
            clear hW hU
            go_wp2_with fail
            exact ⟨⟨k + 1, by omega, by omega, by go_num, p, q, s, D0, d0, D1, d1, by omega, by omega, hs, HB, HK7, HK15, HD, EU⟩, by simp [intOf]; omega⟩
        · by_cases hps : q < t.size
          · obtain ⟨u, hu⟩ : ∃ u, Hid (u = Ap t p (q + 1)) := ⟨_, rfl⟩
            have hv := EVS.out
            rw [hs.out] at hv
            have e1 := get_b hv
            rw [if_pos hps] at e1
            have hw : wantC t q = wrap64 (t[q].toNat : Int) := by unfold wantC; rw [dif_pos hps]; have := t[q].toNat_lt; unfold wrap64; omega
            rw [hw, ← hu.out, ← hs.out] at e1
            obtain ⟨c, hcw⟩ : ∃ c, wrap64 (t[q].toNat : Int) = c := ⟨_, rfl⟩
            rw [hcw] at e1
            have EG := Lib.hid e1
            have EU := Lib.hid (get_valid e1)
            clear hv e1 hw
            have z0 := HK7.out.cell 0
            have z1 := HK7.out.cell 1
            have z2 := HK7.out.cell 2
            have z3 := HK7.out.cell 3
            have z4 := HK7.out.cell 4
            simp at z0 z1 z2 z3 z4
            have hl7 := HK7.out.lt
            have hl15 := HK15.out.lt
            go_wp2_with fail
            refine (get_any _ s 3 _ HC.out.at).mono ?_
            rintro e w8 ⟨⟨v', rfl, ho⟩, hbq⟩
            rw [EG.out] at ho ⊢
            simp only [sm2, in2, errOf] at ho ⊢
            have hsm := (ho.fresh (bnd EU.out).1 (bnd EU.out).2).apart (p := a7) (q := a15) (.inl hl7) (.inl hl15)
            obtain ⟨D0, d0, D1, d1, hv, -⟩ := id hsm
            obtain rfl : v' = .agg #[.slice D0 u.files.length d0, .slice D1 u.opn.length d1, .int .i64 u.inp, .int .i64 u.out, .int .i64 u.nxt] := hv
            replace HK7 := Lib.hid (HK7.out.next hbq)
            replace HC := Lib.hid (HC.out.next hbq)
            replace HK15 := Lib.hid (HK15.out.next hbq)
            replace HB := Lib.hid (bNext HB.out hbq)
            have HD := Lib.hid hsm
            clear ho hsm hbq
            clear hl7 hx0
            clear z0 z1 z2 z3 z4
            have h9 : a15 ≠ w8.heap.size := by have := HK15.out.lt; omega
            obtain ⟨W9, HW⟩ : ∃ X, Hid (X = w8.alloc (.cells #[.slice D0 u.files.length d0, .slice D1 u.opn.length d1, .int .i64 u.inp, .int .i64 u.out, .int .i64 u.nxt] 25)) := ⟨_, rfl⟩
            have hbq : Below w8.heap.size w8 W9 := by rw [HW.out]; exact bAlloc _ _
            have kn : Blk W9 w8.heap.size 25 #[.slice D0 u.files.length d0, .slice D1 u.opn.length d1, .int .i64 u.inp, .int .i64 u.out, .int .i64 u.nxt] := by rw [HW.out]; exact Blk.new _ _ _
            replace HK7 := Lib.hid (HK7.out.next hbq)
            replace HC := Lib.hid (HC.out.next hbq)
            replace HK15 := Lib.hid (HK15.out.next hbq)
            replace HD := Lib.hid (HD.out.next hbq)
            replace HB := Lib.hid (bNext HB.out hbq)
            have HK9 := Lib.hid kn
            clear hbq kn
            go_upto_region 19 with fail
            rw [← HW.out]
            clear HW
            have z0 := HK9.out.cell 0
            have z1 := HK9.out.cell 1
            have z2 := HK9.out.cell 2
            have z3 := HK9.out.cell 3
            have z4 := HK9.out.cell 4
            simp at z0 z1 z2 z3 z4
            have y0 := HK15.out.cell 0
            have y1 := HK15.out.cell 1
            simp at y0 y1
            clear hl15
            have hl15 := HK15.out.lt
            have fy0 := HK15.out.frozen 0
            have fy1 := HK15.out.frozen 1
            have hU := (Upd.refl a15 W9).set 1 (.int .i64 ((q : Int) + 1))
            have hk15 := HK15.out.set_ 1 (.int .i64 ((q : Int) + 1))
            obtain ⟨X1, HW⟩ : ∃ X, Hid (X = W9.setCell ⟨a15, 1, none⟩ (.int .i64 ((q : Int) + 1))) := ⟨_, rfl⟩
            rw [← HW.out] at hU hk15
            go_upto_region 23 with fail
            rw [← HW.out]
            clear HW y0 y1 fy0 fy1 hl15
            replace HB := Lib.hid (hU.below HB.out h15w)
            replace HK7 := Lib.hid (hU.blk HK7.out h715)
            replace HK9 := Lib.hid (hU.blk HK9.out (Ne.symm h9))
            replace HC := Lib.hid (HC.out.upd' hU)
            replace HD := Lib.hid (HD.out.upd' hU)
            replace HK15 := Lib.hid (show Blk X1 a15 46 #[.int .i64 (p : Int), .int .i64 ((q + 1 : Nat) : Int)] by simpa using hk15)
            clear hU hk15
            clear z0 z1 z2 z3 z4
            have z0 := HK9.out.cell 0
            have z1 := HK9.out.cell 1
            have z2 := HK9.out.cell 2
            have z3 := HK9.out.cell 3
            have z4 := HK9.out.cell 4
            simp at z0 z1 z2 z3 z4
            obtain ⟨hW, hU⟩ := put5 (a0 := .slice D0 u.files.length d0) (a1 := .slice D1 u.opn.length d1) (a2 := .int .i64 u.inp) (a3 := .int .i64 u.out) (a4 := .int .i64 u.nxt) HK7.out
            have fz0 := HK7.out.frozen 0
            have fz1 := HK7.out.frozen 1
            have fz2 := HK7.out.frozen 2
            have fz3 := HK7.out.frozen 3
            have fz4 := HK7.out.frozen 4
            have cz0 := HK7.out.cell 0
            have cz1 := HK7.out.cell 1
            have cz2 := HK7.out.cell 2
            have cz3 := HK7.out.cell 3
            have cz4 := HK7.out.cell 4
            simp at cz0 cz1 cz2 cz3 cz4
            have lz := HK7.out.lt
            obtain ⟨W10, HW⟩ : ∃ X, Hid (X = (((((X1.setCell ⟨a7, 0, none⟩ (.slice D0 u.files.length d0)).setCell ⟨a7, 1, none⟩ (.slice D1 u.opn.length d1)).setCell ⟨a7, 2, none⟩ (.int .i64 u.inp)).setCell ⟨a7, 3, none⟩ (.int .i64 u.out)).setCell ⟨a7, 4, none⟩ (.int .i64 u.nxt))) := ⟨_, rfl⟩
            rw [← HW.out] at hW hU
            go_upto_region 14 with fail
            rw [← HW.out]
            clear HW lz fz0 fz1 fz2 fz3 fz4 cz0 cz1 cz2 cz3 cz4
            replace HC := Lib.hid (HC.out.upd hU)
            replace HK15 := Lib.hid (hU.blk HK15.out h157)
            replace HD := Lib.hid (HD.out.upd hU)
            replace HB := Lib.hid (hU.below HB.out h7w)
            replace HK7 := Lib.hid hW
            clear hW hU
            go_wp2_with fail
            exact ⟨⟨k + 1, by omega, by omega, by go_num, p, (q + 1), u, D0, d0, D1, d1, by omega, by omega, hu, HB, HK7, HK15, HD, EU⟩, by simp [intOf]; omega⟩
          · have hv := EVS.out
            rw [hs.out] at hv
            have e1 := get_b hv
            rw [if_neg hps] at e1
            have hw : wantC t q = -1 := by unfold wantC; rw [dif_neg hps]
            rw [hw, ← hs.out] at e1
            have EG := Lib.hid e1
            have EU := Lib.hid (get_valid e1)
            clear hv e1 hw
            have z0 := HK7.out.cell 0
            have z1 := HK7.out.cell 1
            have z2 := HK7.out.cell 2
            have z3 := HK7.out.cell 3
            have z4 := HK7.out.cell 4
            simp at z0 z1 z2 z3 z4
            have hl7 := HK7.out.lt
            have hl15 := HK15.out.lt
            go_wp2_with fail
            refine (get_any _ s 3 _ HC.out.at).mono ?_
            rintro e w8 ⟨⟨v', rfl, ho⟩, hbq⟩
            rw [EG.out] at ho ⊢
            simp only [sm2, in2, errOf] at ho ⊢
            have hsm := (ho.fresh (bnd EU.out).1 (bnd EU.out).2).apart (p := a7) (q := a15) (.inl hl7) (.inl hl15)
            obtain ⟨D0, d0, D1, d1, hv, -⟩ := id hsm
            obtain rfl : v' = .agg #[.slice D0 s.files.length d0, .slice D1 s.opn.length d1, .int .i64 s.inp, .int .i64 s.out, .int .i64 s.nxt] := hv
            replace HK7 := Lib.hid (HK7.out.next hbq)
            replace HC := Lib.hid (HC.out.next hbq)
            replace HK15 := Lib.hid (HK15.out.next hbq)
            replace HB := Lib.hid (bNext HB.out hbq)
            have HD := Lib.hid hsm
            clear ho hsm hbq
            clear hl7 hx0
            clear z0 z1 z2 z3 z4
            have h9 : a15 ≠ w8.heap.size := by have := HK15.out.lt; omega
            obtain ⟨W9, HW⟩ : ∃ X, Hid (X = w8.alloc (.cells #[.slice D0 s.files.length d0, .slice D1 s.opn.length d1, .int .i64 s.inp, .int .i64 s.out, .int .i64 s.nxt] 25)) := ⟨_, rfl⟩
            have hbq : Below w8.heap.size w8 W9 := by rw [HW.out]; exact bAlloc _ _
            have kn : Blk W9 w8.heap.size 25 #[.slice D0 s.files.length d0, .slice D1 s.opn.length d1, .int .i64 s.inp, .int .i64 s.out, .int .i64 s.nxt] := by rw [HW.out]; exact Blk.new _ _ _
            replace HK7 := Lib.hid (HK7.out.next hbq)
            replace HC := Lib.hid (HC.out.next hbq)
            replace HK15 := Lib.hid (HK15.out.next hbq)
            replace HD := Lib.hid (HD.out.next hbq)
            replace HB := Lib.hid (bNext HB.out hbq)
            have HK9 := Lib.hid kn
            clear hbq kn
            go_upto_region 19 with fail
            rw [← HW.out]
            clear HW
            have z0 := HK9.out.cell 0
            have z1 := HK9.out.cell 1
            have z2 := HK9.out.cell 2
            have z3 := HK9.out.cell 3
            have z4 := HK9.out.cell 4
            simp at z0 z1 z2 z3 z4
            have y0 := HK15.out.cell 0
            have y1 := HK15.out.cell 1
            simp at y0 y1
            clear hl15
            have hl15 := HK15.out.lt
            have fy0 := HK15.out.frozen 0
            have fy1 := HK15.out.frozen 1
            go_upto_region 23 with fail
            clear y0 y1 fy0 fy1 hl15
            obtain ⟨hW, hU⟩ := put5 (a0 := .slice D0 s.files.length d0) (a1 := .slice D1 s.opn.length d1) (a2 := .int .i64 s.inp) (a3 := .int .i64 s.out) (a4 := .int .i64 s.nxt) HK7.out
            have fz0 := HK7.out.frozen 0
            have fz1 := HK7.out.frozen 1
            have fz2 := HK7.out.frozen 2
            have fz3 := HK7.out.frozen 3
            have fz4 := HK7.out.frozen 4
            have cz0 := HK7.out.cell 0
            have cz1 := HK7.out.cell 1
            have cz2 := HK7.out.cell 2
            have cz3 := HK7.out.cell 3
            have cz4 := HK7.out.cell 4
            simp at cz0 cz1 cz2 cz3 cz4
            have lz := HK7.out.lt
            obtain ⟨W10, HW⟩ : ∃ X, Hid (X = (((((W9.setCell ⟨a7, 0, none⟩ (.slice D0 s.files.length d0)).setCell ⟨a7, 1, none⟩ (.slice D1 s.opn.length d1)).setCell ⟨a7, 2, none⟩ (.int .i64 s.inp)).setCell ⟨a7, 3, none⟩ (.int .i64 s.out)).setCell ⟨a7, 4, none⟩ (.int .i64 s.nxt))) := ⟨_, rfl⟩
            rw [← HW.out] at hW hU
            go_upto_region 14 with fail
            rw [← HW.out]
            clear HW lz fz0 fz1 fz2 fz3 fz4 cz0 cz1 cz2 cz3 cz4
            replace HC := Lib.hid (HC.out.upd hU)
            replace HK15 := Lib.hid (hU.blk HK15.out h157)
            replace HD := Lib.hid (HD.out.upd hU)
            replace HB := Lib.hid (hU.below HB.out h7w)
            replace HK7 := Lib.hid hW
            clear hW hU
            go_wp2_with fail
            exact ⟨⟨k + 1, by omega, by omega, by go_num, p, q, s, D0, d0, D1, d1, by omega, by omega, hs, HB, HK7, HK15, HD, EU⟩, by simp [intOf]; omega⟩
      · have hv := EVS.out
        rw [hs.out] at hv
        obtain ⟨e1, e2⟩ := rest_a hv
        obtain ⟨e3, e4⟩ := rest_b hv
        have e5 := text_f3 (t := t) hv rfl
        rw [← hs.out] at e1 e2 e3 e4 e5
        have E1 := Lib.hid e1
        have E2 := Lib.hid e2
        have E3 := Lib.hid e3
        have E4 := Lib.hid e4
        have E5 := Lib.hid e5
        clear hv e1 e2 e3 e4 e5
        have z0 := HK7.out.cell 0
        have z1 := HK7.out.cell 1
        have z2 := HK7.out.cell 2
        have z3 := HK7.out.cell 3
        have z4 := HK7.out.cell 4
        simp at z0 z1 z2 z3 z4
        go_wp2_with fail
        refine (rest_any _ s 2 _ HC.out.at).mono ?_
        rintro e w8 ⟨rfl, hbq⟩
        rw [E1.out]
        rw [E2.out]
        replace HK7 := Lib.hid (HK7.out.next hbq)
        replace HC := Lib.hid (HC.out.next hbq)
        replace HK15 := Lib.hid (HK15.out.next hbq)
        replace HB := Lib.hid (bNext HB.out hbq)
        clear hbq
        clear z0 z1 z2 z3 z4
        have z0 := HK7.out.cell 0
        have z1 := HK7.out.cell 1
        have z2 := HK7.out.cell 2
        have z3 := HK7.out.cell 3
        have z4 := HK7.out.cell 4
        simp at z0 z1 z2 z3 z4
        go_wp2_with fail
        refine (rest_any _ s 3 _ HC.out.at).mono ?_
        rintro e w9 ⟨rfl, hbq⟩
        rw [E3.out]
        rw [E4.out]
        replace HK7 := Lib.hid (HK7.out.next hbq)
        replace HC := Lib.hid (HC.out.next hbq)
        replace HK15 := Lib.hid (HK15.out.next hbq)
        replace HB := Lib.hid (bNext HB.out hbq)
        clear hbq
        clear z0 z1 z2 z3 z4
        have z0 := HK7.out.cell 0
        have z1 := HK7.out.cell 1
        have z2 := HK7.out.cell 2
        have z3 := HK7.out.cell 3
        have z4 := HK7.out.cell 4
        simp at z0 z1 z2 z3 z4
        go_wp2_with fail
        refine (text_any _ s ⟨#[102]⟩ _ HC.out.at).mono ?_
        rintro e w10 ⟨rfl, hbq⟩
        rw [E5.out]
        replace HK7 := Lib.hid (HK7.out.next hbq)
        replace HC := Lib.hid (HC.out.next hbq)
        replace HK15 := Lib.hid (HK15.out.next hbq)
        replace HB := Lib.hid (bNext HB.out hbq)
        clear hbq
        simp only [Option.getD_some, Option.isSome_some]
        clear z0 z1 z2 z3 z4
        have y0 := HK15.out.cell 0
        have y1 := HK15.out.cell 1
        simp at y0 y1
        have hl15 := HK15.out.lt
        go_wp2_with fail
        refine (example_any _).mono ?_
        rintro e wx ⟨rfl, hbx⟩
        replace HB := Lib.hid (bNext HB.out hbx)
        clear hbx
        go_wp2_with fail
        go_ret
        exact ⟨rfl, HB.out⟩
    · have hv := EVS.out
      rw [hs.out] at hv
      obtain ⟨e1, e2⟩ := rest_a hv
      obtain ⟨e3, e4⟩ := rest_b hv
      have e5 := text_f3 (t := t) hv rfl
      rw [← hs.out] at e1 e2 e3 e4 e5
      have E1 := Lib.hid e1
      have E2 := Lib.hid e2
      have E3 := Lib.hid e3
      have E4 := Lib.hid e4
      have E5 := Lib.hid e5
      clear hv e1 e2 e3 e4 e5
      have z0 := HK7.out.cell 0
      have z1 := HK7.out.cell 1
      have z2 := HK7.out.cell 2
      have z3 := HK7.out.cell 3
      have z4 := HK7.out.cell 4
      simp at z0 z1 z2 z3 z4
      go_wp2_with fail
      refine (rest_any _ s 2 _ HC.out.at).mono ?_
      rintro e w8 ⟨rfl, hbq⟩
      rw [E1.out]
      rw [E2.out]
      replace HK7 := Lib.hid (HK7.out.next hbq)
      replace HC := Lib.hid (HC.out.next hbq)
      replace HK15 := Lib.hid (HK15.out.next hbq)
      replace HB := Lib.hid (bNext HB.out hbq)
      clear hbq
      clear z0 z1 z2 z3 z4
      have z0 := HK7.out.cell 0
      have z1 := HK7.out.cell 1
      have z2 := HK7.out.cell 2
      have z3 := HK7.out.cell 3
      have z4 := HK7.out.cell 4
      simp at z0 z1 z2 z3 z4
      go_wp2_with fail
      refine (rest_any _ s 3 _ HC.out.at).mono ?_
      rintro e w9 ⟨rfl, hbq⟩
      rw [E3.out]
      rw [E4.out]
      replace HK7 := Lib.hid (HK7.out.next hbq)
      replace HC := Lib.hid (HC.out.next hbq)
      replace HK15 := Lib.hid (HK15.out.next hbq)
      replace HB := Lib.hid (bNext HB.out hbq)
      clear hbq
      clear z0 z1 z2 z3 z4
      have z0 := HK7.out.cell 0
      have z1 := HK7.out.cell 1
      have z2 := HK7.out.cell 2
      have z3 := HK7.out.cell 3
      have z4 := HK7.out.cell 4
      simp at z0 z1 z2 z3 z4
      go_wp2_with fail
      refine (text_any _ s ⟨#[102]⟩ _ HC.out.at).mono ?_
      rintro e w10 ⟨rfl, hbq⟩
      rw [E5.out]
      replace HK7 := Lib.hid (HK7.out.next hbq)
      replace HC := Lib.hid (HC.out.next hbq)
      replace HK15 := Lib.hid (HK15.out.next hbq)
      replace HB := Lib.hid (bNext HB.out hbq)
      clear hbq
      simp only [Option.getD_some, Option.isSome_some]
      clear z0 z1 z2 z3 z4
      have y0 := HK15.out.cell 0
      have y1 := HK15.out.cell 1
      simp at y0 y1
      have hl15 := HK15.out.lt
      go_wp2_with fail
      refine (example_any _).mono ?_
      rintro e wx ⟨rfl, hbx⟩
      replace HB := Lib.hid (bNext HB.out hbx)
      clear hbx
      go_wp2_with fail
      go_ret
      exact ⟨rfl, HB.out⟩
end Go.Proofs.Ytklpghpfdeojeaa
