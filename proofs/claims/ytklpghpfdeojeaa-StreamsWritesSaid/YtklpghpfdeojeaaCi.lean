/-
  The law of StreamsWrites.
-/
import Derived.Test.YtklpghpfdeojeaaCc
import Derived.Test.YtklpghpfdeojeaaCh
import Derived.Test.YtklpghpfdeojeaaWa
import Derived.Test.YtklpghpfdeojeaaUh
import Derived.Test.YtklpghpfdeojeaaUd
import Derived.Deep.Cut
namespace Go.Proofs.Ytklpghpfdeojeaa
open Go.RowKit

/-- behind a call whose state was stored in a new box -/
def DrawnP (a7 : Nat) (wr wx : World) (p : Nat) (u : Sm) : Prop :=
  ∃ C0 c0 C1 c1, wr.heap.size ≤ p ∧ Blk wx p 25 #[.slice C0 u.files.length c0, .slice C1 u.opn.length c1, .int .i64 u.inp, .int .i64 u.out, .int .i64 u.nxt] ∧
    ApartS a7 a7 wx (smV C0 C1 c0 c1 u) u ∧ Below wr.heap.size wr wx
theorem drawp_mk {a7 p : Nat} {wr wX w1 wY w2 : World} {u : Sm} {C0 C1 : Option Addr} {c0 c1 : Nat} (ha : a7 < wr.heap.size) (hX : Below wr.heap.size wr wX)
    (hc : FreshS w1 wX.heap.size (smV C0 C1 c0 c1 u) u) (hb1 : Below wX.heap.size wX w1) (hY : Below w1.heap.size w1 wY) (hp : (wr.heap.size ≤ p ∧ p < wX.heap.size) ∨ w1.heap.size ≤ p)
    (h2 : Upd p wY w2) (hP : Blk w2 p 25 #[.slice C0 u.files.length c0, .slice C1 u.opn.length c1, .int .i64 u.inp, .int .i64 u.out, .int .i64 u.nxt]) : DrawnP a7 wr w2 p u := by
  have hX1 := hX.size
  have hb2 := hb1.size
  have hp' : wr.heap.size ≤ p := by omega
  refine ⟨C0, c0, C1, c1, hp', hP, ?_, h2.below (bNext (bNext hX hb1) hY) hp'⟩
  refine (FreshS.stay hc (fun g h1 h4 => ?_) (by rw [h2.size]; exact hY.size)).apart (.inl (by omega)) (.inl (by omega))
  exact (h2.block g (by omega)).trans (hY.block g h4)

set_option maxHeartbeats 16000000 in
set_option maxRecDepth 100000 in
theorem law_writes (t : ByteArray) (ap : Bool) (K1 : Option Addr) (k1 : Nat) (l : List ByteArray) (w : World) (hz : t.size ≤ maxLen)
    (hlb : l.length * 16 ≤ reachBytes) (hr : RowAt w w.heap.size 1 (fun b : ByteArray => [.string b]) K1 l) :
    Calls Try.prog 7 #[.string t, .bool ap, .slice K1 l.length k1] w fun e w' => e = .returned (.bool true) ∧ Below w.heap.size w w' := by
  simp only [reachBytes] at hlb
  unfold maxLen at hz
  have HR1 := Lib.hid hr
  clear hr
  have hfz : FilesAt (w.alloc (.cells #[.string ⟨#[102]⟩, .string t] 35)) (w.alloc (.cells #[.string ⟨#[102]⟩, .string t] 35)).heap.size (some ⟨w.heap.size, 0, none⟩) 1 [⟨⟨#[102]⟩, t⟩] := by
    refine ⟨⟨rfl, by omega⟩, fun _ => ⟨w.heap.size, 0, rfl, by simp, fun i x hx => ?_⟩⟩
    have hk := Blk.new w 35 #[.string ⟨#[102]⟩, .string t]
    match i, hx with
    | 0, hx =>
      simp at hx
      subst hx
      exact ⟨hk.cell 0, hk.cell 1⟩
    | i + 1, hx => simp at hx
  have HFZ := Lib.hid hfz
  have HB := Lib.hid (bAlloc w (.cells #[.string ⟨#[102]⟩, .string t] 35))
  clear hfz
  go_enter Try.func7, Try.ntmps7
  go_wp2_with fail
  rcases Nat.lt_or_ge 16384 t.size with htl | htl
  · have hnv : newV [⟨⟨#[102]⟩, t⟩] = .error 1 := (new_f t).trans (if_neg (by omega))
    have EN := Lib.hid hnv
    have hti : (16384 : Int) < (t.size : Int) := by omega
    clear hnv
    refine (new_any (some ⟨w.heap.size, 0, none⟩) 1 1 [⟨⟨#[102]⟩, t⟩] _ HFZ.out ⟨by omega, fun e => by cases e⟩ (by omega)).mono ?_
    rintro e w1 ⟨⟨v', rfl, ho⟩, hbq⟩
    rw [EN.out] at ho ⊢
    simp only [smOf, errOf] at ho ⊢
    have hsm := ho.fresh (Nat.zero_le _) (Nat.zero_le _)
    obtain ⟨N0, n0, N1, n1, hv, -⟩ := id hsm
    obtain rfl : v' = .agg #[.slice N0 zS.files.length n0, .slice N1 zS.opn.length n1, .int .i64 zS.inp, .int .i64 zS.out, .int .i64 zS.nxt] := hv
    replace HB := Lib.hid (bNext HB.out hbq)
    clear ho
    go_wp2_with fail
    refine (example_any _).mono ?_
    rintro e wx ⟨rfl, hbx⟩
    replace HB := Lib.hid (bNext (HB.out.alloc HB.out.size _) hbx)
    clear hbx
    go_wp2_with fail
    go_ret
    exact ⟨rfl, HB.out⟩
  obtain ⟨s0, hs0⟩ : ∃ s, Hid (S0 t = s) := ⟨_, rfl⟩
  have hnv : newV [⟨⟨#[102]⟩, t⟩] = .ok s0 := by rw [← hs0.out]; exact (new_f t).trans (if_pos htl)
  have EN := Lib.hid hnv
  have hv0 : validB s0 = true := by rw [← hs0.out]; exact valid_S0 htl
  have EV0 := Lib.hid hv0
  have EOP := Lib.hid (fun m (hm : m = 2 ∨ m = 3) => (by rw [← hs0.out]; exact open_wt t m hm htl : openV s0 ⟨#[102]⟩ m ⟨#[]⟩ 2 = .ok (Wt (if m = 2 then ⟨#[]⟩ else t) m, 2)))
  clear hnv hv0 hs0
  refine (new_any (some ⟨w.heap.size, 0, none⟩) 1 1 [⟨⟨#[102]⟩, t⟩] _ HFZ.out ⟨by omega, fun e => by cases e⟩ (by omega)).mono ?_
  rintro e w1 ⟨⟨v', rfl, ho⟩, hbq⟩
  rw [EN.out] at ho ⊢
  simp only [smOf, errOf] at ho ⊢
  have hsm := ho.fresh (bnd EV0.out).1 (bnd EV0.out).2
  obtain ⟨N0, n0, N1, n1, hv, -⟩ := id hsm
  obtain rfl : v' = .agg #[.slice N0 s0.files.length n0, .slice N1 s0.opn.length n1, .int .i64 s0.inp, .int .i64 s0.out, .int .i64 s0.nxt] := hv
  replace HB := Lib.hid (bNext HB.out hbq)
  clear ho
  obtain ⟨a7, ha7⟩ : ∃ a, a = w1.heap.size := ⟨_, rfl⟩
  have hz7 := hbq.size
  have HN := Lib.hid (hsm.apart (p := a7) (q := a7) (.inr (by omega)) (.inr (by omega)))
  have h7w : w.heap.size ≤ a7 := by simp at hz7; omega
  clear hsm hbq hz7 HFZ
  obtain ⟨W0, HW⟩ : ∃ X, Hid (X = w1.alloc (.cells #[.slice N0 s0.files.length n0, .slice N1 s0.opn.length n1, .int .i64 s0.inp, .int .i64 s0.out, .int .i64 s0.nxt] 25)) := ⟨_, rfl⟩
  have hbq : Below w1.heap.size w1 W0 := by rw [HW.out]; exact bAlloc _ _
  have HK7 := Lib.hid (show Blk W0 a7 25 #[.slice N0 s0.files.length n0, .slice N1 s0.opn.length n1, .int .i64 s0.inp, .int .i64 s0.out, .int .i64 s0.nxt] by rw [HW.out, ha7]; exact Blk.new _ _ _)
  go_upto_region 2 with fail
  rw [← HW.out, ← ha7]
  clear HW ha7
  replace HN := Lib.hid (HN.out.next hbq)
  replace HB := Lib.hid (bNext HB.out hbq)
  clear hbq
  go_upto_if 38 with fail
  go_cut [9, 10] from 38 to 39 (fun s9 s10 wx => ∃ (m : Int) (a : ByteArray), s9 = .int .i64 m ∧ s10 = .string a ∧ ((m = 2 ∨ m = 3) ∧ a.size ≤ 16384 ∧ (if m = 2 then ⟨#[]⟩ else t) = a) ∧ wx = W0)
  case first =>
    cases ap
    · go_wp2_with fail
      go_meet
      exact ⟨_, _, rfl, rfl, ⟨.inl rfl, by decide, rfl⟩, rfl⟩
    · go_wp2_with fail
      go_meet
      exact ⟨_, _, rfl, rfl, ⟨.inr rfl, htl, rfl⟩, rfl⟩
  case rest =>
    obtain ⟨m, a, rfl, rfl, ⟨hm, hal, ha⟩, rfl⟩ := hcut
    have hop := EOP.out m hm
    rw [ha] at hop
    clear ha
    obtain ⟨s, hs⟩ : ∃ s, Hid (s = Wt a m) := ⟨_, rfl⟩
    rw [← hs.out] at hop
    have EVS := Lib.hid (open_valid hop)
    have EO := Lib.hid hop
    clear hop EOP
    have z0 := HK7.out.cell 0
    have z1 := HK7.out.cell 1
    have z2 := HK7.out.cell 2
    have z3 := HK7.out.cell 3
    have z4 := HK7.out.cell 4
    simp at z0 z1 z2 z3 z4
    have hl7 := HK7.out.lt
    go_wp2_with fail
    refine (open_any _ s0 ⟨#[102]⟩ m ⟨#[]⟩ 2 _ HN.out.at).mono ?_
    rintro e w2 ⟨⟨v', rfl, ho⟩, hbq⟩
    rw [EO.out] at ho ⊢
    simp only [sm2, in2, errOf] at ho ⊢
    have hsm := (ho.fresh (bnd EVS.out).1 (bnd EVS.out).2).apart (p := a7) (q := a7) (.inl hl7) (.inl hl7)
    obtain ⟨C0, c0, C1, c1, hv, -⟩ := id hsm
    obtain rfl : v' = .agg #[.slice C0 s.files.length c0, .slice C1 s.opn.length c1, .int .i64 s.inp, .int .i64 s.out, .int .i64 s.nxt] := hv
    replace HN := Lib.hid (HN.out.next hbq)
    replace HK7 := Lib.hid (HK7.out.next hbq)
    replace HB := Lib.hid (bNext HB.out hbq)
    have HC := Lib.hid hsm
    clear ho hsm hbq
    clear hl7
    clear z0 z1 z2 z3 z4
    obtain ⟨hW, hU⟩ := put5 (a0 := .slice C0 s.files.length c0) (a1 := .slice C1 s.opn.length c1) (a2 := .int .i64 s.inp) (a3 := .int .i64 s.out) (a4 := .int .i64 s.nxt) HK7.out
    have fz0 := HK7.out.frozen 0
    have fz1 := HK7.out.frozen 1
    have fz2 := HK7.out.frozen 2
    have fz3 := HK7.out.frozen 3
    have fz4 := HK7.out.frozen 4
    have cz0 := HK7.out.cell 0
    have cz1 := HK7.out.cell 1
    have cz2 := HK7.out.cell 2
    have cz3 := HK7.out.cell 3
    have cz4 := HK7.out.cell 4
    simp at cz0 cz1 cz2 cz3 cz4
    have lz := HK7.out.lt
    obtain ⟨W3, HW⟩ : ∃ X, Hid (X = (((((w2.setCell ⟨a7, 0, none⟩ (.slice C0 s.files.length c0)).setCell ⟨a7, 1, none⟩ (.slice C1 s.opn.length c1)).setCell ⟨a7, 2, none⟩ (.int .i64 s.inp)).setCell ⟨a7, 3, none⟩ (.int .i64 s.out)).setCell ⟨a7, 4, none⟩ (.int .i64 s.nxt))) := ⟨_, rfl⟩
    rw [← HW.out] at hW hU
    go_upto_region 8 with fail
    rw [← HW.out]
    clear HW lz fz0 fz1 fz2 fz3 fz4 cz0 cz1 cz2 cz3 cz4
    replace HN := Lib.hid (HN.out.upd hU)
    replace HC := Lib.hid (HC.out.upd hU)
    replace HB := Lib.hid (hU.below HB.out h7w)
    replace HK7 := Lib.hid hW
    clear hW hU
    clear HN EV0 EN EO
    go_wp2_with fail
    go_loopw [10, 12] (fun al i wr => ∃ k : Nat, k ≤ 20 ∧ k ≤ l.length ∧ i = .int .i64 (k : Int) ∧ ∃ (a : ByteArray) (s : Sm) (C0 : Option Addr) (c0 : Nat) (C1 : Option Addr) (c1 : Nat), al = .string a ∧ a.size ≤ 16384 ∧ Hid (s = Wt a m) ∧ Hid (Below w.heap.size w wr) ∧ Hid (Blk wr a7 25 #[.slice C0 s.files.length c0, .slice C1 s.opn.length c1, .int .i64 s.inp, .int .i64 s.out, .int .i64 s.nxt]) ∧ Hid (ApartS a7 a7 wr (.agg #[.slice C0 s.files.length c0, .slice C1 s.opn.length c1, .int .i64 s.inp, .int .i64 s.out, .int .i64 s.nxt]) s) ∧ Hid (validB s = true)) (fun _ i _ => 20 - (intOf i).toNat)
    case atStart => exact ⟨0, by omega, by omega, rfl, a, s, _, _, _, _, rfl, hal, hs, HB, HK7, HC, EVS⟩
    case round =>
      clear HB HK7 HC EVS hs hal
      obtain ⟨k, hk, hkl, rfl, a, s, C0, c0, C1, c1, rfl, hal, hs, HB, HK7, HC, EVS⟩ := hrel
      by_cases hlt : k < l.length
      · by_cases h20 : k < 20
        · obtain ⟨ab, ao, rfl, hab, hrow⟩ := HR1.out (by omega)
          obtain ⟨pt, hb⟩ : ∃ b, l[k]? = some b := ⟨_, List.getElem?_eq_getElem hlt⟩
          have hx0 := (HB.out.cell (p := ⟨ab, _, none⟩) hab).trans (hrow k pt hb 0 _ rfl)
          simp only [Nat.mul_one, Nat.add_zero] at hx0
          clear hb hrow
          by_cases hA : 16384 < pt.size
          · have EP : Hid (putV s 2 pt = .error 1) := by rw [hs.out]; exact put_long hA
            have hAi : (16384 : Int) < (pt.size : Int) := by omega
            have hl7 := HK7.out.lt
            have hlw := HB.out.size
            have hab' : ab < wr.heap.size := by omega
            go_upto_region 13 with fail
            go_cut [13, 14] from 49 to 68 (fun s13 s14 wx => ∃ p, s13 = .pointer (some ⟨p, 0, none⟩) ∧ s14 = .int .i64 1 ∧ Hid (DrawnP a7 wr wx p zS))
            case first =>
              refine wp_region_N (fun w' => Below wr.heap.size wr w') (fun _ => true) (by kernel_rfl) ?_
              have hS0 : (fun w' => Below wr.heap.size wr w') wr.drew := bDrewN (Below.refl _ _) 1
              obtain ⟨X0, HX0⟩ : ∃ X, Hid (X = wr.drew) := ⟨_, rfl⟩
              rw [← HX0.out] at hS0 ⊢
              have hS0 : Below wr.heap.size wr X0 := hS0
              clear HX0
              refine wpAnyN_take (i := 0) (v := ?v1) rfl (by kernel_rfl) (by kernel_rfl) (by kernel_rfl) (by kernel_rfl) (fun _ _ _ h => h) (Or.inl ⟨by rfl, ?hy1⟩) (by assumption) ?_
              case hy1 => intro w hSw; have e := (HK7.out.below hSw HK7.out.lt); have e0 := e.cell 0; have e1 := e.cell 1; have e2 := e.cell 2; have e3 := e.cell 3; have e4 := e.cell 4; simp at e0 e1 e2 e3 e4; go_simp; try with_reducible rfl
              simp only [Act.put, List.getElem_toArray, List.getElem_cons_zero, List.setIfInBounds_toArray, List.set_cons_zero, List.set_cons_succ]
              refine wpAnyN_take (i := 1) (v := ?v2) rfl (by kernel_rfl) (by kernel_rfl) (by kernel_rfl) (by kernel_rfl) (fun _ _ _ h => h) (Or.inl ⟨by rfl, ?hy2⟩) (by assumption) ?_
              case hy2 => intro w hSw; (try dsimp only at hSw); go_simp; try with_reducible rfl
              simp only [Act.put, List.getElem_toArray, List.getElem_cons_zero, List.getElem_cons_succ, List.setIfInBounds_toArray, List.set_cons_zero, List.set_cons_succ]
              refine wpAnyN_take (i := 2) (v := ?v3) rfl (by kernel_rfl) (by kernel_rfl) (by kernel_rfl) (by kernel_rfl) (fun _ _ _ h => h) (Or.inl ⟨by rfl, ?hy3⟩) (by assumption) ?_
              case hy3 => intro w hSw; (try dsimp only at hSw); go_simp; try with_reducible rfl
              simp only [Act.put, List.getElem_toArray, List.getElem_cons_zero, List.getElem_cons_succ, List.setIfInBounds_toArray, List.set_cons_zero, List.set_cons_succ]
              refine wpAnyN_take (i := 3) (v := ?v4) rfl (by kernel_rfl) (by kernel_rfl) (by kernel_rfl) (by kernel_rfl) (fun _ _ _ h => h) (Or.inl ⟨by rfl, ?hy4⟩) (by assumption) ?_
              case hy4 => intro w hSw; (try dsimp only at hSw); go_simp; try with_reducible rfl
              simp only [Act.put, List.getElem_toArray, List.getElem_cons_zero, List.getElem_cons_succ, List.setIfInBounds_toArray, List.set_cons_zero, List.set_cons_succ]
              refine wpAnyN_take (i := 4) (v := ?v5) rfl (by kernel_rfl) (by kernel_rfl) (by kernel_rfl) (by kernel_rfl) (fun _ _ _ h => h) (Or.inl ⟨by rfl, ?hy5⟩) (by assumption) ?_
              case hy5 => intro w hSw; (try dsimp only at hSw); go_simp; try with_reducible rfl
              simp only [Act.put, List.getElem_toArray, List.getElem_cons_zero, List.getElem_cons_succ, List.setIfInBounds_toArray, List.set_cons_zero, List.set_cons_succ]
              refine wpAnyN_take (i := 5) (v := ?v6) rfl (by kernel_rfl) (by kernel_rfl) (by kernel_rfl) (by kernel_rfl) (fun _ _ _ h => h) (Or.inl ⟨by rfl, ?hy6⟩) (by assumption) ?_
              case hy6 => intro w hSw; have e0 := (hSw.cell (p := ⟨ab, _, none⟩) hab').trans hx0; go_simp; try with_reducible rfl
              simp only [Act.put, List.getElem_toArray, List.getElem_cons_zero, List.getElem_cons_succ, List.setIfInBounds_toArray, List.set_cons_zero, List.set_cons_succ]
              refine wpAnyN_two (i := 6) (j := 10) (by kernel_rfl) rfl rfl (fun K hK => ?_) (fun K hK => ?_)
              · simp only [List.getElem_toArray, List.getElem_cons_zero, List.getElem_cons_succ]
                go_simp
                refine (Put_any _ s 2 pt _ (HC.out.at.next hS0)).mono ?_
                rintro e X1 ⟨⟨v', rfl, ho⟩, hb1⟩
                rw [EP.out] at ho ⊢
                simp only [smOf, errOf] at ho ⊢
                have hf := ho.fresh (Nat.zero_le _) (Nat.zero_le _)
                obtain ⟨D0, d0, D1, d1, hv, -⟩ := id hf
                obtain rfl : v' = .agg #[.slice D0 zS.files.length d0, .slice D1 zS.opn.length d1, .int .i64 zS.inp, .int .i64 zS.out, .int .i64 zS.nxt] := hv
                clear ho
                have hS1 := bNext hS0 hb1
                refine hK _ _ (fun _ => hS1) ?_
                refine wpAnyN_take (i := 7) (v := ?v7) rfl (by kernel_rfl) (by kernel_rfl) (by kernel_rfl) (by kernel_rfl) (fun _ _ _ h => h) (Or.inl ⟨by rfl, ?hy7⟩) (by assumption) ?_
                case hy7 => intro w hSw; (try dsimp only at hSw); go_simp; try with_reducible rfl
                simp only [Act.put, List.getElem_toArray, List.getElem_cons_zero, List.getElem_cons_succ, List.setIfInBounds_toArray, List.set_cons_zero, List.set_cons_succ]
                refine wpAnyN_take (i := 8) (v := ?v8) rfl (by kernel_rfl) (by kernel_rfl) (by kernel_rfl) (by kernel_rfl) (fun _ _ _ h => h) (Or.inl ⟨by rfl, ?hy8⟩) (by assumption) ?_
                case hy8 => intro w hSw; (try dsimp only at hSw); go_simp; try with_reducible rfl
                simp only [Act.put, List.getElem_toArray, List.getElem_cons_zero, List.getElem_cons_succ, List.setIfInBounds_toArray, List.set_cons_zero, List.set_cons_succ]
                refine wpAnyN_take (i := 9) (v := ?v9) rfl (by kernel_rfl) (by kernel_rfl) (by kernel_rfl) (by kernel_rfl) (fun _ _ _ h => h) (Or.inl ⟨by rfl, ?hy9⟩) (by assumption) ?_
                case hy9 => intro w hSw; (try dsimp only at hSw); go_simp; try with_reducible rfl
                simp only [Act.put, List.getElem_toArray, List.getElem_cons_zero, List.getElem_cons_succ, List.setIfInBounds_toArray, List.set_cons_zero, List.set_cons_succ]
                (try simp only [Act.put, List.setIfInBounds_toArray, List.set_cons_zero, List.set_cons_succ])
                refine wpAnyN_one (i := 10) (by kernel_rfl) rfl (fun K hK => ?_)
                simp only [List.getElem_toArray, List.getElem_cons_zero, List.getElem_cons_succ]
                go_simp
                obtain ⟨X2, HX⟩ : ∃ X, Hid (X = X1.alloc (.cells #[.slice none 0 0, .slice none 0 0, .int .i64 0, .int .i64 0, .int .i64 0] 25)) := ⟨_, rfl⟩
                have hb2 : Below X1.heap.size X1 X2 := by rw [HX.out]; exact bAlloc _ _
                have hz2 : X1.heap.size < X2.heap.size := by rw [HX.out]; simp
                have hP : Blk X2 X1.heap.size 25 #[.slice none 0 0, .slice none 0 0, .int .i64 0, .int .i64 0, .int .i64 0] := by rw [HX.out]; exact Blk.new _ _ _
                rw [← HX.out]
                clear HX
                have hS2 := bNext hS1 hb2
                refine hK _ _ (fun _ => hS2) ?_
                (try simp only [Act.put, List.setIfInBounds_toArray, List.set_cons_zero, List.set_cons_succ])
                have hy0 := hS0.size
                have hy1 := hb1.size
                have hy2 := hb2.size
                have f0 := hP.frozen 0; have f1 := hP.frozen 1; have f2 := hP.frozen 2; have f3 := hP.frozen 3; have f4 := hP.frozen 4
                have g0 := hP.cell 0; have g1 := hP.cell 1; have g2 := hP.cell 2; have g3 := hP.cell 3; have g4 := hP.cell 4
                have gl := hP.lt
                simp at g0 g1 g2 g3 g4
                refine wpAnyN_one (i := 11) (by kernel_rfl) rfl (fun K hK => ?_)
                simp only [List.getElem_toArray, List.getElem_cons_zero, List.getElem_cons_succ]
                go_simp
                obtain ⟨hW, hU⟩ := put5 (a0 := .slice D0 zS.files.length d0) (a1 := .slice D1 zS.opn.length d1) (a2 := .int .i64 zS.inp) (a3 := .int .i64 zS.out) (a4 := .int .i64 zS.nxt) hP
                obtain ⟨X3, HX⟩ : ∃ X, Hid (X = (((((X2.setCell ⟨X1.heap.size, 0, none⟩ (.slice D0 zS.files.length d0)).setCell ⟨X1.heap.size, 1, none⟩ (.slice D1 zS.opn.length d1)).setCell ⟨X1.heap.size, 2, none⟩ (.int .i64 zS.inp)).setCell ⟨X1.heap.size, 3, none⟩ (.int .i64 zS.out)).setCell ⟨X1.heap.size, 4, none⟩ (.int .i64 zS.nxt))) := ⟨_, rfl⟩
                rw [← HX.out] at hW hU ⊢
                clear HX f0 f1 f2 f3 f4 g0 g1 g2 g3 g4
                have hS3 := hU.below hS2 (by omega)
                refine hK _ _ (fun _ => hS3) ?_
                (try simp only [Act.put, List.setIfInBounds_toArray, List.set_cons_zero, List.set_cons_succ])
                refine wpAnyN_one (i := 12) (by kernel_rfl) rfl (fun K hK => ?_)
                simp only [List.getElem_toArray, List.getElem_cons_zero, List.getElem_cons_succ]
                go_simp
                refine hK _ _ (fun _ => hS3) ?_
                (try simp only [Act.put, List.setIfInBounds_toArray, List.set_cons_zero, List.set_cons_succ])
                refine wpAnyN_done (by kernel_rfl) ?_ _
                go_wp2_with fail
                go_meet
                exact ⟨_, rfl, rfl, Lib.hid (drawp_mk (p := X1.heap.size) (wX := X0) (w1 := X1) (wY := X2) hl7 hS0 hf hb1 hb2 (.inr (Nat.le_refl _)) hU hW)⟩
              · simp only [List.getElem_toArray, List.getElem_cons_zero, List.getElem_cons_succ]
                go_simp
                obtain ⟨X1, HX⟩ : ∃ X, Hid (X = X0.alloc (.cells #[.slice none 0 0, .slice none 0 0, .int .i64 0, .int .i64 0, .int .i64 0] 25)) := ⟨_, rfl⟩
                have hb1 : Below X0.heap.size X0 X1 := by rw [HX.out]; exact bAlloc _ _
                have hz1 : X0.heap.size < X1.heap.size := by rw [HX.out]; simp
                have hP : Blk X1 X0.heap.size 25 #[.slice none 0 0, .slice none 0 0, .int .i64 0, .int .i64 0, .int .i64 0] := by rw [HX.out]; exact Blk.new _ _ _
                rw [← HX.out]
                clear HX
                have hS1 := bNext hS0 hb1
                refine hK _ _ (fun _ => hS1) ?_
                (try simp only [Act.put, List.setIfInBounds_toArray, List.set_cons_zero, List.set_cons_succ])
                refine wpAnyN_one (i := 6) (by kernel_rfl) rfl (fun K hK => ?_)
                simp only [List.getElem_toArray, List.getElem_cons_zero, List.getElem_cons_succ]
                go_simp
                refine (Put_any _ s 2 pt _ (HC.out.at.next hS1)).mono ?_
                rintro e X2 ⟨⟨v', rfl, ho⟩, hb2⟩
                rw [EP.out] at ho ⊢
                simp only [smOf, errOf] at ho ⊢
                have hf := ho.fresh (Nat.zero_le _) (Nat.zero_le _)
                obtain ⟨D0, d0, D1, d1, hv, -⟩ := id hf
                obtain rfl : v' = .agg #[.slice D0 zS.files.length d0, .slice D1 zS.opn.length d1, .int .i64 zS.inp, .int .i64 zS.out, .int .i64 zS.nxt] := hv
                clear ho
                have hS2 := bNext hS1 hb2
                refine hK _ _ (fun _ => hS2) ?_
                refine wpAnyN_take (i := 7) (v := ?v10) rfl (by kernel_rfl) (by kernel_rfl) (by kernel_rfl) (by kernel_rfl) (fun _ _ _ h => h) (Or.inl ⟨by rfl, ?hy10⟩) (by assumption) ?_
                case hy10 => intro w hSw; (try dsimp only at hSw); go_simp; try with_reducible rfl
                simp only [Act.put, List.getElem_toArray, List.getElem_cons_zero, List.getElem_cons_succ, List.setIfInBounds_toArray, List.set_cons_zero, List.set_cons_succ]
                refine wpAnyN_take (i := 8) (v := ?v11) rfl (by kernel_rfl) (by kernel_rfl) (by kernel_rfl) (by kernel_rfl) (fun _ _ _ h => h) (Or.inl ⟨by rfl, ?hy11⟩) (by assumption) ?_
                case hy11 => intro w hSw; (try dsimp only at hSw); go_simp; try with_reducible rfl
                simp only [Act.put, List.getElem_toArray, List.getElem_cons_zero, List.getElem_cons_succ, List.setIfInBounds_toArray, List.set_cons_zero, List.set_cons_succ]
                refine wpAnyN_take (i := 9) (v := ?v12) rfl (by kernel_rfl) (by kernel_rfl) (by kernel_rfl) (by kernel_rfl) (fun _ _ _ h => h) (Or.inl ⟨by rfl, ?hy12⟩) (by assumption) ?_
                case hy12 => intro w hSw; (try dsimp only at hSw); go_simp; try with_reducible rfl
                simp only [Act.put, List.getElem_toArray, List.getElem_cons_zero, List.getElem_cons_succ, List.setIfInBounds_toArray, List.set_cons_zero, List.set_cons_succ]
                (try simp only [Act.put, List.setIfInBounds_toArray, List.set_cons_zero, List.set_cons_succ])
                replace hP := hP.next hb2
                have hy0 := hS0.size
                have hy1 := hb1.size
                have hy2 := hb2.size
                have f0 := hP.frozen 0; have f1 := hP.frozen 1; have f2 := hP.frozen 2; have f3 := hP.frozen 3; have f4 := hP.frozen 4
                have g0 := hP.cell 0; have g1 := hP.cell 1; have g2 := hP.cell 2; have g3 := hP.cell 3; have g4 := hP.cell 4
                have gl := hP.lt
                simp at g0 g1 g2 g3 g4
                refine wpAnyN_one (i := 11) (by kernel_rfl) rfl (fun K hK => ?_)
                simp only [List.getElem_toArray, List.getElem_cons_zero, List.getElem_cons_succ]
                go_simp
                obtain ⟨hW, hU⟩ := put5 (a0 := .slice D0 zS.files.length d0) (a1 := .slice D1 zS.opn.length d1) (a2 := .int .i64 zS.inp) (a3 := .int .i64 zS.out) (a4 := .int .i64 zS.nxt) hP
                obtain ⟨X3, HX⟩ : ∃ X, Hid (X = (((((X2.setCell ⟨X0.heap.size, 0, none⟩ (.slice D0 zS.files.length d0)).setCell ⟨X0.heap.size, 1, none⟩ (.slice D1 zS.opn.length d1)).setCell ⟨X0.heap.size, 2, none⟩ (.int .i64 zS.inp)).setCell ⟨X0.heap.size, 3, none⟩ (.int .i64 zS.out)).setCell ⟨X0.heap.size, 4, none⟩ (.int .i64 zS.nxt))) := ⟨_, rfl⟩
                rw [← HX.out] at hW hU ⊢
                clear HX f0 f1 f2 f3 f4 g0 g1 g2 g3 g4
                have hS3 := hU.below hS2 (by omega)
                refine hK _ _ (fun _ => hS3) ?_
                (try simp only [Act.put, List.setIfInBounds_toArray, List.set_cons_zero, List.set_cons_succ])
                refine wpAnyN_one (i := 12) (by kernel_rfl) rfl (fun K hK => ?_)
                simp only [List.getElem_toArray, List.getElem_cons_zero, List.getElem_cons_succ]
                go_simp
                refine hK _ _ (fun _ => hS3) ?_
                (try simp only [Act.put, List.setIfInBounds_toArray, List.set_cons_zero, List.set_cons_succ])
                refine wpAnyN_done (by kernel_rfl) ?_ _
                go_wp2_with fail
                go_meet
                exact ⟨_, rfl, rfl, Lib.hid (drawp_mk (p := X0.heap.size) (wX := X1) (w1 := X2) (wY := X2) hl7 hS1 hf hb2 (Below.refl _ _) (.inl ⟨by omega, by omega⟩) hU hW)⟩
            case rest =>
              obtain ⟨p1, rfl, rfl, HD⟩ := hcut
              obtain ⟨D0, d0, D1, d1, hp1, kp1, hAD, hbc⟩ := HD.out
              have hx1 := (hbc.cell (p := ⟨ab, _, none⟩) hab').trans hx0
              have hne : p1 ≠ a7 := by omega
              replace HK7 := Lib.hid (HK7.out.next hbc)
              replace HC := Lib.hid (HC.out.next hbc)
              replace HB := Lib.hid (bNext HB.out hbc)
              clear hAD kp1 hbc hx0 hl7 hlw hab' hp1 hne HD
              have ET : Hid (textV s ⟨#[102]⟩ = some a) := Lib.hid (text_f3 EVS.out (by rw [hs.out]))
              have z0 := HK7.out.cell 0
              have z1 := HK7.out.cell 1
              have z2 := HK7.out.cell 2
              have z3 := HK7.out.cell 3
              have z4 := HK7.out.cell 4
              simp at z0 z1 z2 z3 z4
              go_wp2_with fail
              refine (text_any _ s ⟨#[102]⟩ _ HC.out.at).mono ?_
              rintro e w4 ⟨rfl, hbq⟩
              rw [ET.out]
              replace HK7 := Lib.hid (HK7.out.next hbq)
              replace HC := Lib.hid (HC.out.next hbq)
              replace HB := Lib.hid (bNext HB.out hbq)
              clear hbq
              simp only [Option.getD_some, Option.isSome_some]
              clear z0 z1 z2 z3 z4
              go_wp2_with fail
              exact ⟨⟨k + 1, by omega, by omega, by go_num, a, s, C0, c0, C1, c1, rfl, hal, hs, HB, HK7, HC, EVS⟩, by simp [intOf]; omega⟩
          · by_cases hF : 16384 < a.size + pt.size
            · have hv := EVS.out
              rw [hs.out] at hv
              have EP : Hid (putV s 2 pt = .error 13) := by rw [hs.out]; exact (put_wt hv hm (by omega)).trans (if_pos (by omega))
              have hAi : ¬ (16384 : Int) < (pt.size : Int) := by omega
              have hFi : (16384 : Int) - (a.size : Int) < (pt.size : Int) := by omega
              clear hv
              have hl7 := HK7.out.lt
              have hlw := HB.out.size
              have hab' : ab < wr.heap.size := by omega
              go_upto_region 13 with fail
              go_cut [13, 14] from 49 to 68 (fun s13 s14 wx => ∃ p, s13 = .pointer (some ⟨p, 0, none⟩) ∧ s14 = .int .i64 13 ∧ Hid (DrawnP a7 wr wx p zS))
              case first =>
                refine wp_region_N (fun w' => Below wr.heap.size wr w') (fun _ => true) (by kernel_rfl) ?_
                have hS0 : (fun w' => Below wr.heap.size wr w') wr.drew := bDrewN (Below.refl _ _) 1
                obtain ⟨X0, HX0⟩ : ∃ X, Hid (X = wr.drew) := ⟨_, rfl⟩
                rw [← HX0.out] at hS0 ⊢
                have hS0 : Below wr.heap.size wr X0 := hS0
                clear HX0
                refine wpAnyN_take (i := 0) (v := ?v13) rfl (by kernel_rfl) (by kernel_rfl) (by kernel_rfl) (by kernel_rfl) (fun _ _ _ h => h) (Or.inl ⟨by rfl, ?hy13⟩) (by assumption) ?_
                case hy13 => intro w hSw; have e := (HK7.out.below hSw HK7.out.lt); have e0 := e.cell 0; have e1 := e.cell 1; have e2 := e.cell 2; have e3 := e.cell 3; have e4 := e.cell 4; simp at e0 e1 e2 e3 e4; go_simp; try with_reducible rfl
                simp only [Act.put, List.getElem_toArray, List.getElem_cons_zero, List.setIfInBounds_toArray, List.set_cons_zero, List.set_cons_succ]
                refine wpAnyN_take (i := 1) (v := ?v14) rfl (by kernel_rfl) (by kernel_rfl) (by kernel_rfl) (by kernel_rfl) (fun _ _ _ h => h) (Or.inl ⟨by rfl, ?hy14⟩) (by assumption) ?_
                case hy14 => intro w hSw; (try dsimp only at hSw); go_simp; try with_reducible rfl
                simp only [Act.put, List.getElem_toArray, List.getElem_cons_zero, List.getElem_cons_succ, List.setIfInBounds_toArray, List.set_cons_zero, List.set_cons_succ]
                refine wpAnyN_take (i := 2) (v := ?v15) rfl (by kernel_rfl) (by kernel_rfl) (by kernel_rfl) (by kernel_rfl) (fun _ _ _ h => h) (Or.inl ⟨by rfl, ?hy15⟩) (by assumption) ?_
                case hy15 => intro w hSw; (try dsimp only at hSw); go_simp; try with_reducible rfl
                simp only [Act.put, List.getElem_toArray, List.getElem_cons_zero, List.getElem_cons_succ, List.setIfInBounds_toArray, List.set_cons_zero, List.set_cons_succ]
                refine wpAnyN_take (i := 3) (v := ?v16) rfl (by kernel_rfl) (by kernel_rfl) (by kernel_rfl) (by kernel_rfl) (fun _ _ _ h => h) (Or.inl ⟨by rfl, ?hy16⟩) (by assumption) ?_
                case hy16 => intro w hSw; (try dsimp only at hSw); go_simp; try with_reducible rfl
                simp only [Act.put, List.getElem_toArray, List.getElem_cons_zero, List.getElem_cons_succ, List.setIfInBounds_toArray, List.set_cons_zero, List.set_cons_succ]
                refine wpAnyN_take (i := 4) (v := ?v17) rfl (by kernel_rfl) (by kernel_rfl) (by kernel_rfl) (by kernel_rfl) (fun _ _ _ h => h) (Or.inl ⟨by rfl, ?hy17⟩) (by assumption) ?_
                case hy17 => intro w hSw; (try dsimp only at hSw); go_simp; try with_reducible rfl
                simp only [Act.put, List.getElem_toArray, List.getElem_cons_zero, List.getElem_cons_succ, List.setIfInBounds_toArray, List.set_cons_zero, List.set_cons_succ]
                refine wpAnyN_take (i := 5) (v := ?v18) rfl (by kernel_rfl) (by kernel_rfl) (by kernel_rfl) (by kernel_rfl) (fun _ _ _ h => h) (Or.inl ⟨by rfl, ?hy18⟩) (by assumption) ?_
                case hy18 => intro w hSw; have e0 := (hSw.cell (p := ⟨ab, _, none⟩) hab').trans hx0; go_simp; try with_reducible rfl
                simp only [Act.put, List.getElem_toArray, List.getElem_cons_zero, List.getElem_cons_succ, List.setIfInBounds_toArray, List.set_cons_zero, List.set_cons_succ]
                refine wpAnyN_two (i := 6) (j := 10) (by kernel_rfl) rfl rfl (fun K hK => ?_) (fun K hK => ?_)
                · simp only [List.getElem_toArray, List.getElem_cons_zero, List.getElem_cons_succ]
                  go_simp
                  refine (Put_any _ s 2 pt _ (HC.out.at.next hS0)).mono ?_
                  rintro e X1 ⟨⟨v', rfl, ho⟩, hb1⟩
                  rw [EP.out] at ho ⊢
                  simp only [smOf, errOf] at ho ⊢
                  have hf := ho.fresh (Nat.zero_le _) (Nat.zero_le _)
                  obtain ⟨D0, d0, D1, d1, hv, -⟩ := id hf
                  obtain rfl : v' = .agg #[.slice D0 zS.files.length d0, .slice D1 zS.opn.length d1, .int .i64 zS.inp, .int .i64 zS.out, .int .i64 zS.nxt] := hv
                  clear ho
                  have hS1 := bNext hS0 hb1
                  refine hK _ _ (fun _ => hS1) ?_
                  refine wpAnyN_take (i := 7) (v := ?v19) rfl (by kernel_rfl) (by kernel_rfl) (by kernel_rfl) (by kernel_rfl) (fun _ _ _ h => h) (Or.inl ⟨by rfl, ?hy19⟩) (by assumption) ?_
                  case hy19 => intro w hSw; (try dsimp only at hSw); go_simp; try with_reducible rfl
                  simp only [Act.put, List.getElem_toArray, List.getElem_cons_zero, List.getElem_cons_succ, List.setIfInBounds_toArray, List.set_cons_zero, List.set_cons_succ]
                  refine wpAnyN_take (i := 8) (v := ?v20) rfl (by kernel_rfl) (by kernel_rfl) (by kernel_rfl) (by kernel_rfl) (fun _ _ _ h => h) (Or.inl ⟨by rfl, ?hy20⟩) (by assumption) ?_
                  case hy20 => intro w hSw; (try dsimp only at hSw); go_simp; try with_reducible rfl
                  simp only [Act.put, List.getElem_toArray, List.getElem_cons_zero, List.getElem_cons_succ, List.setIfInBounds_toArray, List.set_cons_zero, List.set_cons_succ]
                  refine wpAnyN_take (i := 9) (v := ?v21) rfl (by kernel_rfl) (by kernel_rfl) (by kernel_rfl) (by kernel_rfl) (fun _ _ _ h => h) (Or.inl ⟨by rfl, ?hy21⟩) (by assumption) ?_
                  case hy21 => intro w hSw; (try dsimp only at hSw); go_simp; try with_reducible rfl
                  simp only [Act.put, List.getElem_toArray, List.getElem_cons_zero, List.getElem_cons_succ, List.setIfInBounds_toArray, List.set_cons_zero, List.set_cons_succ]
                  (try simp only [Act.put, List.setIfInBounds_toArray, List.set_cons_zero, List.set_cons_succ])
                  refine wpAnyN_one (i := 10) (by kernel_rfl) rfl (fun K hK => ?_)
                  simp only [List.getElem_toArray, List.getElem_cons_zero, List.getElem_cons_succ]
                  go_simp
                  obtain ⟨X2, HX⟩ : ∃ X, Hid (X = X1.alloc (.cells #[.slice none 0 0, .slice none 0 0, .int .i64 0, .int .i64 0, .int .i64 0] 25)) := ⟨_, rfl⟩
                  have hb2 : Below X1.heap.size X1 X2 := by rw [HX.out]; exact bAlloc _ _
                  have hz2 : X1.heap.size < X2.heap.size := by rw [HX.out]; simp
                  have hP : Blk X2 X1.heap.size 25 #[.slice none 0 0, .slice none 0 0, .int .i64 0, .int .i64 0, .int .i64 0] := by rw [HX.out]; exact Blk.new _ _ _
                  rw [← HX.out]
                  clear HX
                  have hS2 := bNext hS1 hb2
                  refine hK _ _ (fun _ => hS2) ?_
                  (try simp only [Act.put, List.setIfInBounds_toArray, List.set_cons_zero, List.set_cons_succ])
                  have hy0 := hS0.size
                  have hy1 := hb1.size
                  have hy2 := hb2.size
                  have f0 := hP.frozen 0; have f1 := hP.frozen 1; have f2 := hP.frozen 2; have f3 := hP.frozen 3; have f4 := hP.frozen 4
                  have g0 := hP.cell 0; have g1 := hP.cell 1; have g2 := hP.cell 2; have g3 := hP.cell 3; have g4 := hP.cell 4
                  have gl := hP.lt
                  simp at g0 g1 g2 g3 g4
                  refine wpAnyN_one (i := 11) (by kernel_rfl) rfl (fun K hK => ?_)
                  simp only [List.getElem_toArray, List.getElem_cons_zero, List.getElem_cons_succ]
                  go_simp
                  obtain ⟨hW, hU⟩ := put5 (a0 := .slice D0 zS.files.length d0) (a1 := .slice D1 zS.opn.length d1) (a2 := .int .i64 zS.inp) (a3 := .int .i64 zS.out) (a4 := .int .i64 zS.nxt) hP
                  obtain ⟨X3, HX⟩ : ∃ X, Hid (X = (((((X2.setCell ⟨X1.heap.size, 0, none⟩ (.slice D0 zS.files.length d0)).setCell ⟨X1.heap.size, 1, none⟩ (.slice D1 zS.opn.length d1)).setCell ⟨X1.heap.size, 2, none⟩ (.int .i64 zS.inp)).setCell ⟨X1.heap.size, 3, none⟩ (.int .i64 zS.out)).setCell ⟨X1.heap.size, 4, none⟩ (.int .i64 zS.nxt))) := ⟨_, rfl⟩
                  rw [← HX.out] at hW hU ⊢
                  clear HX f0 f1 f2 f3 f4 g0 g1 g2 g3 g4
                  have hS3 := hU.below hS2 (by omega)
                  refine hK _ _ (fun _ => hS3) ?_
                  (try simp only [Act.put, List.setIfInBounds_toArray, List.set_cons_zero, List.set_cons_succ])
                  refine wpAnyN_one (i := 12) (by kernel_rfl) rfl (fun K hK => ?_)
                  simp only [List.getElem_toArray, List.getElem_cons_zero, List.getElem_cons_succ]
                  go_simp
                  refine hK _ _ (fun _ => hS3) ?_
                  (try simp only [Act.put, List.setIfInBounds_toArray, List.set_cons_zero, List.set_cons_succ])
                  refine wpAnyN_done (by kernel_rfl) ?_ _
                  go_wp2_with fail
                  go_meet
                  exact ⟨_, rfl, rfl, Lib.hid (drawp_mk (p := X1.heap.size) (wX := X0) (w1 := X1) (wY := X2) hl7 hS0 hf hb1 hb2 (.inr (Nat.le_refl _)) hU hW)⟩
                · simp only [List.getElem_toArray, List.getElem_cons_zero, List.getElem_cons_succ]
                  go_simp
                  obtain ⟨X1, HX⟩ : ∃ X, Hid (X = X0.alloc (.cells #[.slice none 0 0, .slice none 0 0, .int .i64 0, .int .i64 0, .int .i64 0] 25)) := ⟨_, rfl⟩
                  have hb1 : Below X0.heap.size X0 X1 := by rw [HX.out]; exact bAlloc _ _
                  have hz1 : X0.heap.size < X1.heap.size := by rw [HX.out]; simp
                  have hP : Blk X1 X0.heap.size 25 #[.slice none 0 0, .slice none 0 0, .int .i64 0, .int .i64 0, .int .i64 0] := by rw [HX.out]; exact Blk.new _ _ _
                  rw [← HX.out]
                  clear HX
                  have hS1 := bNext hS0 hb1
                  refine hK _ _ (fun _ => hS1) ?_
                  (try simp only [Act.put, List.setIfInBounds_toArray, List.set_cons_zero, List.set_cons_succ])
                  refine wpAnyN_one (i := 6) (by kernel_rfl) rfl (fun K hK => ?_)
                  simp only [List.getElem_toArray, List.getElem_cons_zero, List.getElem_cons_succ]
                  go_simp
                  refine (Put_any _ s 2 pt _ (HC.out.at.next hS1)).mono ?_
                  rintro e X2 ⟨⟨v', rfl, ho⟩, hb2⟩
                  rw [EP.out] at ho ⊢
                  simp only [smOf, errOf] at ho ⊢
                  have hf := ho.fresh (Nat.zero_le _) (Nat.zero_le _)
                  obtain ⟨D0, d0, D1, d1, hv, -⟩ := id hf
                  obtain rfl : v' = .agg #[.slice D0 zS.files.length d0, .slice D1 zS.opn.length d1, .int .i64 zS.inp, .int .i64 zS.out, .int .i64 zS.nxt] := hv
                  clear ho
                  have hS2 := bNext hS1 hb2
                  refine hK _ _ (fun _ => hS2) ?_
                  refine wpAnyN_take (i := 7) (v := ?v22) rfl (by kernel_rfl) (by kernel_rfl) (by kernel_rfl) (by kernel_rfl) (fun _ _ _ h => h) (Or.inl ⟨by rfl, ?hy22⟩) (by assumption) ?_
                  case hy22 => intro w hSw; (try dsimp only at hSw); go_simp; try with_reducible rfl
                  simp only [Act.put, List.getElem_toArray, List.getElem_cons_zero, List.getElem_cons_succ, List.setIfInBounds_toArray, List.set_cons_zero, List.set_cons_succ]
                  refine wpAnyN_take (i := 8) (v := ?v23) rfl (by kernel_rfl) (by kernel_rfl) (by kernel_rfl) (by kernel_rfl) (fun _ _ _ h => h) (Or.inl ⟨by rfl, ?hy23⟩) (by assumption) ?_
                  case hy23 => intro w hSw; (try dsimp only at hSw); go_simp; try with_reducible rfl
                  simp only [Act.put, List.getElem_toArray, List.getElem_cons_zero, List.getElem_cons_succ, List.setIfInBounds_toArray, List.set_cons_zero, List.set_cons_succ]
                  refine wpAnyN_take (i := 9) (v := ?v24) rfl (by kernel_rfl) (by kernel_rfl) (by kernel_rfl) (by kernel_rfl) (fun _ _ _ h => h) (Or.inl ⟨by rfl, ?hy24⟩) (by assumption) ?_
                  case hy24 => intro w hSw; (try dsimp only at hSw); go_simp; try with_reducible rfl
                  simp only [Act.put, List.getElem_toArray, List.getElem_cons_zero, List.getElem_cons_succ, List.setIfInBounds_toArray, List.set_cons_zero, List.set_cons_succ]
                  (try simp only [Act.put, List.setIfInBounds_toArray, List.set_cons_zero, List.set_cons_succ])
                  replace hP := hP.next hb2
                  have hy0 := hS0.size
                  have hy1 := hb1.size
                  have hy2 := hb2.size
                  have f0 := hP.frozen 0; have f1 := hP.frozen 1; have f2 := hP.frozen 2; have f3 := hP.frozen 3; have f4 := hP.frozen 4
                  have g0 := hP.cell 0; have g1 := hP.cell 1; have g2 := hP.cell 2; have g3 := hP.cell 3; have g4 := hP.cell 4
                  have gl := hP.lt
                  simp at g0 g1 g2 g3 g4
                  refine wpAnyN_one (i := 11) (by kernel_rfl) rfl (fun K hK => ?_)
                  simp only [List.getElem_toArray, List.getElem_cons_zero, List.getElem_cons_succ]
                  go_simp
                  obtain ⟨hW, hU⟩ := put5 (a0 := .slice D0 zS.files.length d0) (a1 := .slice D1 zS.opn.length d1) (a2 := .int .i64 zS.inp) (a3 := .int .i64 zS.out) (a4 := .int .i64 zS.nxt) hP
                  obtain ⟨X3, HX⟩ : ∃ X, Hid (X = (((((X2.setCell ⟨X0.heap.size, 0, none⟩ (.slice D0 zS.files.length d0)).setCell ⟨X0.heap.size, 1, none⟩ (.slice D1 zS.opn.length d1)).setCell ⟨X0.heap.size, 2, none⟩ (.int .i64 zS.inp)).setCell ⟨X0.heap.size, 3, none⟩ (.int .i64 zS.out)).setCell ⟨X0.heap.size, 4, none⟩ (.int .i64 zS.nxt))) := ⟨_, rfl⟩
                  rw [← HX.out] at hW hU ⊢
                  clear HX f0 f1 f2 f3 f4 g0 g1 g2 g3 g4
                  have hS3 := hU.below hS2 (by omega)
                  refine hK _ _ (fun _ => hS3) ?_
                  (try simp only [Act.put, List.setIfInBounds_toArray, List.set_cons_zero, List.set_cons_succ])
                  refine wpAnyN_one (i := 12) (by kernel_rfl) rfl (fun K hK => ?_)
                  simp only [List.getElem_toArray, List.getElem_cons_zero, List.getElem_cons_succ]
                  go_simp
                  refine hK _ _ (fun _ => hS3) ?_
                  (try simp only [Act.put, List.setIfInBounds_toArray, List.set_cons_zero, List.set_cons_succ])
                  refine wpAnyN_done (by kernel_rfl) ?_ _
                  go_wp2_with fail
                  go_meet
                  exact ⟨_, rfl, rfl, Lib.hid (drawp_mk (p := X0.heap.size) (wX := X1) (w1 := X2) (wY := X2) hl7 hS1 hf hb2 (Below.refl _ _) (.inl ⟨by omega, by omega⟩) hU hW)⟩
              case rest =>
                obtain ⟨p1, rfl, rfl, HD⟩ := hcut
                obtain ⟨D0, d0, D1, d1, hp1, kp1, hAD, hbc⟩ := HD.out
                have hx1 := (hbc.cell (p := ⟨ab, _, none⟩) hab').trans hx0
                have hne : p1 ≠ a7 := by omega
                replace HK7 := Lib.hid (HK7.out.next hbc)
                replace HC := Lib.hid (HC.out.next hbc)
                replace HB := Lib.hid (bNext HB.out hbc)
                clear hAD kp1 hbc hx0 hl7 hlw hab' hp1 hne HD
                have ET : Hid (textV s ⟨#[102]⟩ = some a) := Lib.hid (text_f3 EVS.out (by rw [hs.out]))
                have z0 := HK7.out.cell 0
                have z1 := HK7.out.cell 1
                have z2 := HK7.out.cell 2
                have z3 := HK7.out.cell 3
                have z4 := HK7.out.cell 4
                simp at z0 z1 z2 z3 z4
                go_wp2_with fail
                refine (text_any _ s ⟨#[102]⟩ _ HC.out.at).mono ?_
                rintro e w4 ⟨rfl, hbq⟩
                rw [ET.out]
                replace HK7 := Lib.hid (HK7.out.next hbq)
                replace HC := Lib.hid (HC.out.next hbq)
                replace HB := Lib.hid (bNext HB.out hbq)
                clear hbq
                simp only [Option.getD_some, Option.isSome_some]
                clear z0 z1 z2 z3 z4
                go_wp2_with fail
                exact ⟨⟨k + 1, by omega, by omega, by go_num, a, s, C0, c0, C1, c1, rfl, hal, hs, HB, HK7, HC, EVS⟩, by simp [intOf]; omega⟩
            · have hv := EVS.out
              rw [hs.out] at hv
              obtain ⟨u, hu⟩ : ∃ u, Hid (u = Wt (a ++ pt) m) := ⟨_, rfl⟩
              have hp : putV s 2 pt = .ok u := by rw [hs.out, hu.out]; exact (put_wt hv hm (by omega)).trans (if_neg (by omega))
              have EP := Lib.hid hp
              have EU := Lib.hid (put_valid hp)
              have hsz : (a ++ pt).size ≤ 16384 := by rw [ByteArray.size_append]; omega
              have hAi : ¬ (16384 : Int) < (pt.size : Int) := by omega
              have hFi : ¬ (16384 : Int) - (a.size : Int) < (pt.size : Int) := by omega
              clear hv hp
              have hl7 := HK7.out.lt
              have hlw := HB.out.size
              have hab' : ab < wr.heap.size := by omega
              go_upto_region 13 with fail
              go_cut [13, 14] from 49 to 68 (fun s13 s14 wx => ∃ p, s13 = .pointer (some ⟨p, 0, none⟩) ∧ s14 = .int .i64 0 ∧ Hid (DrawnP a7 wr wx p u))
              case first =>
                refine wp_region_N (fun w' => Below wr.heap.size wr w') (fun _ => true) (by kernel_rfl) ?_
                have hS0 : (fun w' => Below wr.heap.size wr w') wr.drew := bDrewN (Below.refl _ _) 1
                obtain ⟨X0, HX0⟩ : ∃ X, Hid (X = wr.drew) := ⟨_, rfl⟩
                rw [← HX0.out] at hS0 ⊢
                have hS0 : Below wr.heap.size wr X0 := hS0
                clear HX0
                refine wpAnyN_take (i := 0) (v := ?v25) rfl (by kernel_rfl) (by kernel_rfl) (by kernel_rfl) (by kernel_rfl) (fun _ _ _ h => h) (Or.inl ⟨by rfl, ?hy25⟩) (by assumption) ?_
                case hy25 => intro w hSw; have e := (HK7.out.below hSw HK7.out.lt); have e0 := e.cell 0; have e1 := e.cell 1; have e2 := e.cell 2; have e3 := e.cell 3; have e4 := e.cell 4; simp at e0 e1 e2 e3 e4; go_simp; try with_reducible rfl
                simp only [Act.put, List.getElem_toArray, List.getElem_cons_zero, List.setIfInBounds_toArray, List.set_cons_zero, List.set_cons_succ]
                refine wpAnyN_take (i := 1) (v := ?v26) rfl (by kernel_rfl) (by kernel_rfl) (by kernel_rfl) (by kernel_rfl) (fun _ _ _ h => h) (Or.inl ⟨by rfl, ?hy26⟩) (by assumption) ?_
                case hy26 => intro w hSw; (try dsimp only at hSw); go_simp; try with_reducible rfl
                simp only [Act.put, List.getElem_toArray, List.getElem_cons_zero, List.getElem_cons_succ, List.setIfInBounds_toArray, List.set_cons_zero, List.set_cons_succ]
                refine wpAnyN_take (i := 2) (v := ?v27) rfl (by kernel_rfl) (by kernel_rfl) (by kernel_rfl) (by kernel_rfl) (fun _ _ _ h => h) (Or.inl ⟨by rfl, ?hy27⟩) (by assumption) ?_
                case hy27 => intro w hSw; (try dsimp only at hSw); go_simp; try with_reducible rfl
                simp only [Act.put, List.getElem_toArray, List.getElem_cons_zero, List.getElem_cons_succ, List.setIfInBounds_toArray, List.set_cons_zero, List.set_cons_succ]
                refine wpAnyN_take (i := 3) (v := ?v28) rfl (by kernel_rfl) (by kernel_rfl) (by kernel_rfl) (by kernel_rfl) (fun _ _ _ h => h) (Or.inl ⟨by rfl, ?hy28⟩) (by assumption) ?_
                case hy28 => intro w hSw; (try dsimp only at hSw); go_simp; try with_reducible rfl
                simp only [Act.put, List.getElem_toArray, List.getElem_cons_zero, List.getElem_cons_succ, List.setIfInBounds_toArray, List.set_cons_zero, List.set_cons_succ]
                refine wpAnyN_take (i := 4) (v := ?v29) rfl (by kernel_rfl) (by kernel_rfl) (by kernel_rfl) (by kernel_rfl) (fun _ _ _ h => h) (Or.inl ⟨by rfl, ?hy29⟩) (by assumption) ?_
                case hy29 => intro w hSw; (try dsimp only at hSw); go_simp; try with_reducible rfl
                simp only [Act.put, List.getElem_toArray, List.getElem_cons_zero, List.getElem_cons_succ, List.setIfInBounds_toArray, List.set_cons_zero, List.set_cons_succ]
                refine wpAnyN_take (i := 5) (v := ?v30) rfl (by kernel_rfl) (by kernel_rfl) (by kernel_rfl) (by kernel_rfl) (fun _ _ _ h => h) (Or.inl ⟨by rfl, ?hy30⟩) (by assumption) ?_
                case hy30 => intro w hSw; have e0 := (hSw.cell (p := ⟨ab, _, none⟩) hab').trans hx0; go_simp; try with_reducible rfl
                simp only [Act.put, List.getElem_toArray, List.getElem_cons_zero, List.getElem_cons_succ, List.setIfInBounds_toArray, List.set_cons_zero, List.set_cons_succ]
                refine wpAnyN_two (i := 6) (j := 10) (by kernel_rfl) rfl rfl (fun K hK => ?_) (fun K hK => ?_)
                · simp only [List.getElem_toArray, List.getElem_cons_zero, List.getElem_cons_succ]
                  go_simp
                  refine (Put_any _ s 2 pt _ (HC.out.at.next hS0)).mono ?_
                  rintro e X1 ⟨⟨v', rfl, ho⟩, hb1⟩
                  rw [EP.out] at ho ⊢
                  simp only [smOf, errOf] at ho ⊢
                  have hf := ho.fresh (bnd EU.out).1 (bnd EU.out).2
                  obtain ⟨D0, d0, D1, d1, hv, -⟩ := id hf
                  obtain rfl : v' = .agg #[.slice D0 u.files.length d0, .slice D1 u.opn.length d1, .int .i64 u.inp, .int .i64 u.out, .int .i64 u.nxt] := hv
                  clear ho
                  have hS1 := bNext hS0 hb1
                  refine hK _ _ (fun _ => hS1) ?_
                  refine wpAnyN_take (i := 7) (v := ?v31) rfl (by kernel_rfl) (by kernel_rfl) (by kernel_rfl) (by kernel_rfl) (fun _ _ _ h => h) (Or.inl ⟨by rfl, ?hy31⟩) (by assumption) ?_
                  case hy31 => intro w hSw; (try dsimp only at hSw); go_simp; try with_reducible rfl
                  simp only [Act.put, List.getElem_toArray, List.getElem_cons_zero, List.getElem_cons_succ, List.setIfInBounds_toArray, List.set_cons_zero, List.set_cons_succ]
                  refine wpAnyN_take (i := 8) (v := ?v32) rfl (by kernel_rfl) (by kernel_rfl) (by kernel_rfl) (by kernel_rfl) (fun _ _ _ h => h) (Or.inl ⟨by rfl, ?hy32⟩) (by assumption) ?_
                  case hy32 => intro w hSw; (try dsimp only at hSw); go_simp; try with_reducible rfl
                  simp only [Act.put, List.getElem_toArray, List.getElem_cons_zero, List.getElem_cons_succ, List.setIfInBounds_toArray, List.set_cons_zero, List.set_cons_succ]
                  refine wpAnyN_take (i := 9) (v := ?v33) rfl (by kernel_rfl) (by kernel_rfl) (by kernel_rfl) (by kernel_rfl) (fun _ _ _ h => h) (Or.inl ⟨by rfl, ?hy33⟩) (by assumption) ?_
                  case hy33 => intro w hSw; (try dsimp only at hSw); go_simp; try with_reducible rfl
                  simp only [Act.put, List.getElem_toArray, List.getElem_cons_zero, List.getElem_cons_succ, List.setIfInBounds_toArray, List.set_cons_zero, List.set_cons_succ]
                  (try simp only [Act.put, List.setIfInBounds_toArray, List.set_cons_zero, List.set_cons_succ])
                  refine wpAnyN_one (i := 10) (by kernel_rfl) rfl (fun K hK => ?_)
                  simp only [List.getElem_toArray, List.getElem_cons_zero, List.getElem_cons_succ]
                  go_simp
                  obtain ⟨X2, HX⟩ : ∃ X, Hid (X = X1.alloc (.cells #[.slice none 0 0, .slice none 0 0, .int .i64 0, .int .i64 0, .int .i64 0] 25)) := ⟨_, rfl⟩
                  have hb2 : Below X1.heap.size X1 X2 := by rw [HX.out]; exact bAlloc _ _
                  have hz2 : X1.heap.size < X2.heap.size := by rw [HX.out]; simp
                  have hP : Blk X2 X1.heap.size 25 #[.slice none 0 0, .slice none 0 0, .int .i64 0, .int .i64 0, .int .i64 0] := by rw [HX.out]; exact Blk.new _ _ _
                  rw [← HX.out]
                  clear HX
                  have hS2 := bNext hS1 hb2
                  refine hK _ _ (fun _ => hS2) ?_
                  (try simp only [Act.put, List.setIfInBounds_toArray, List.set_cons_zero, List.set_cons_succ])
                  have hy0 := hS0.size
                  have hy1 := hb1.size
                  have hy2 := hb2.size
                  have f0 := hP.frozen 0; have f1 := hP.frozen 1; have f2 := hP.frozen 2; have f3 := hP.frozen 3; have f4 := hP.frozen 4
                  have g0 := hP.cell 0; have g1 := hP.cell 1; have g2 := hP.cell 2; have g3 := hP.cell 3; have g4 := hP.cell 4
                  have gl := hP.lt
                  simp at g0 g1 g2 g3 g4
                  refine wpAnyN_one (i := 11) (by kernel_rfl) rfl (fun K hK => ?_)
                  simp only [List.getElem_toArray, List.getElem_cons_zero, List.getElem_cons_succ]
                  go_simp
                  obtain ⟨hW, hU⟩ := put5 (a0 := .slice D0 u.files.length d0) (a1 := .slice D1 u.opn.length d1) (a2 := .int .i64 u.inp) (a3 := .int .i64 u.out) (a4 := .int .i64 u.nxt) hP
                  obtain ⟨X3, HX⟩ : ∃ X, Hid (X = (((((X2.setCell ⟨X1.heap.size, 0, none⟩ (.slice D0 u.files.length d0)).setCell ⟨X1.heap.size, 1, none⟩ (.slice D1 u.opn.length d1)).setCell ⟨X1.heap.size, 2, none⟩ (.int .i64 u.inp)).setCell ⟨X1.heap.size, 3, none⟩ (.int .i64 u.out)).setCell ⟨X1.heap.size, 4, none⟩ (.int .i64 u.nxt))) := ⟨_, rfl⟩
                  rw [← HX.out] at hW hU ⊢
                  clear HX f0 f1 f2 f3 f4 g0 g1 g2 g3 g4
                  have hS3 := hU.below hS2 (by omega)
                  refine hK _ _ (fun _ => hS3) ?_
                  (try simp only [Act.put, List.setIfInBounds_toArray, List.set_cons_zero, List.set_cons_succ])
                  refine wpAnyN_one (i := 12) (by kernel_rfl) rfl (fun K hK => ?_)
                  simp only [List.getElem_toArray, List.getElem_cons_zero, List.getElem_cons_succ]
                  go_simp
                  refine hK _ _ (fun _ => hS3) ?_
                  (try simp only [Act.put, List.setIfInBounds_toArray, List.set_cons_zero, List.set_cons_succ])
                  refine wpAnyN_done (by kernel_rfl) ?_ _
                  go_wp2_with fail
                  go_meet
                  exact ⟨_, rfl, rfl, Lib.hid (drawp_mk (p := X1.heap.size) (wX := X0) (w1 := X1) (wY := X2) hl7 hS0 hf hb1 hb2 (.inr (Nat.le_refl _)) hU hW)⟩
                · simp only [List.getElem_toArray, List.getElem_cons_zero, List.getElem_cons_succ]
                  go_simp
                  obtain ⟨X1, HX⟩ : ∃ X, Hid (X = X0.alloc (.cells #[.slice none 0 0, .slice none 0 0, .int .i64 0, .int .i64 0, .int .i64 0] 25)) := ⟨_, rfl⟩
                  have hb1 : Below X0.heap.size X0 X1 := by rw [HX.out]; exact bAlloc _ _
                  have hz1 : X0.heap.size < X1.heap.size := by rw [HX.out]; simp
                  have hP : Blk X1 X0.heap.size 25 #[.slice none 0 0, .slice none 0 0, .int .i64 0, .int .i64 0, .int .i64 0] := by rw [HX.out]; exact Blk.new _ _ _
                  rw [← HX.out]
                  clear HX
                  have hS1 := bNext hS0 hb1
                  refine hK _ _ (fun _ => hS1) ?_
                  (try simp only [Act.put, List.setIfInBounds_toArray, List.set_cons_zero, List.set_cons_succ])
                  refine wpAnyN_one (i := 6) (by kernel_rfl) rfl (fun K hK => ?_)
                  simp only [List.getElem_toArray, List.getElem_cons_zero, List.getElem_cons_succ]
                  go_simp
                  refine (Put_any _ s 2 pt _ (HC.out.at.next hS1)).mono ?_
                  rintro e X2 ⟨⟨v', rfl, ho⟩, hb2⟩
                  rw [EP.out] at ho ⊢
                  simp only [smOf, errOf] at ho ⊢
                  have hf := ho.fresh (bnd EU.out).1 (bnd EU.out).2
                  obtain ⟨D0, d0, D1, d1, hv, -⟩ := id hf
                  obtain rfl : v' = .agg #[.slice D0 u.files.length d0, .slice D1 u.opn.length d1, .int .i64 u.inp, .int .i64 u.out, .int .i64 u.nxt] := hv
                  clear ho
                  have hS2 := bNext hS1 hb2
                  refine hK _ _ (fun _ => hS2) ?_
                  refine wpAnyN_take (i := 7) (v := ?v34) rfl (by kernel_rfl) (by kernel_rfl) (by kernel_rfl) (by kernel_rfl) (fun _ _ _ h => h) (Or.inl ⟨by rfl, ?hy34⟩) (by assumption) ?_
                  case hy34 => intro w hSw; (try dsimp only at hSw); go_simp; try with_reducible rfl
                  simp only [Act.put, List.getElem_toArray, List.getElem_cons_zero, List.getElem_cons_succ, List.setIfInBounds_toArray, List.set_cons_zero, List.set_cons_succ]
                  refine wpAnyN_take (i := 8) (v := ?v35) rfl (by kernel_rfl) (by kernel_rfl) (by kernel_rfl) (by kernel_rfl) (fun _ _ _ h => h) (Or.inl ⟨by rfl, ?hy35⟩) (by assumption) ?_
                  case hy35 => intro w hSw; (try dsimp only at hSw); go_simp; try with_reducible rfl
                  simp only [Act.put, List.getElem_toArray, List.getElem_cons_zero, List.getElem_cons_succ, List.setIfInBounds_toArray, List.set_cons_zero, List.set_cons_succ]
                  refine wpAnyN_take (i := 9) (v := ?v36) rfl (by kernel_rfl) (by kernel_rfl) (by kernel_rfl) (by kernel_rfl) (fun _ _ _ h => h) (Or.inl ⟨by rfl, ?hy36⟩) (by assumption) ?_
                  case hy36 => intro w hSw; (try dsimp only at hSw); go_simp; try with_reducible rfl
                  simp only [Act.put, List.getElem_toArray, List.getElem_cons_zero, List.getElem_cons_succ, List.setIfInBounds_toArray, List.set_cons_zero, List.set_cons_succ]
                  (try simp only [Act.put, List.setIfInBounds_toArray, List.set_cons_zero, List.set_cons_succ])
                  replace hP := hP.next hb2
                  have hy0 := hS0.size
                  have hy1 := hb1.size
                  have hy2 := hb2.size
                  have f0 := hP.frozen 0; have f1 := hP.frozen 1; have f2 := hP.frozen 2; have f3 := hP.frozen 3; have f4 := hP.frozen 4
                  have g0 := hP.cell 0; have g1 := hP.cell 1; have g2 := hP.cell 2; have g3 := hP.cell 3; have g4 := hP.cell 4
                  have gl := hP.lt
                  simp at g0 g1 g2 g3 g4
                  refine wpAnyN_one (i := 11) (by kernel_rfl) rfl (fun K hK => ?_)
                  simp only [List.getElem_toArray, List.getElem_cons_zero, List.getElem_cons_succ]
                  go_simp
                  obtain ⟨hW, hU⟩ := put5 (a0 := .slice D0 u.files.length d0) (a1 := .slice D1 u.opn.length d1) (a2 := .int .i64 u.inp) (a3 := .int .i64 u.out) (a4 := .int .i64 u.nxt) hP
                  obtain ⟨X3, HX⟩ : ∃ X, Hid (X = (((((X2.setCell ⟨X0.heap.size, 0, none⟩ (.slice D0 u.files.length d0)).setCell ⟨X0.heap.size, 1, none⟩ (.slice D1 u.opn.length d1)).setCell ⟨X0.heap.size, 2, none⟩ (.int .i64 u.inp)).setCell ⟨X0.heap.size, 3, none⟩ (.int .i64 u.out)).setCell ⟨X0.heap.size, 4, none⟩ (.int .i64 u.nxt))) := ⟨_, rfl⟩
                  rw [← HX.out] at hW hU ⊢
                  clear HX f0 f1 f2 f3 f4 g0 g1 g2 g3 g4
                  have hS3 := hU.below hS2 (by omega)
                  refine hK _ _ (fun _ => hS3) ?_
                  (try simp only [Act.put, List.setIfInBounds_toArray, List.set_cons_zero, List.set_cons_succ])
                  refine wpAnyN_one (i := 12) (by kernel_rfl) rfl (fun K hK => ?_)
                  simp only [List.getElem_toArray, List.getElem_cons_zero, List.getElem_cons_succ]
                  go_simp
                  refine hK _ _ (fun _ => hS3) ?_
                  (try simp only [Act.put, List.setIfInBounds_toArray, List.set_cons_zero, List.set_cons_succ])
                  refine wpAnyN_done (by kernel_rfl) ?_ _
                  go_wp2_with fail
                  go_meet
                  exact ⟨_, rfl, rfl, Lib.hid (drawp_mk (p := X0.heap.size) (wX := X1) (w1 := X2) (wY := X2) hl7 hS1 hf hb2 (Below.refl _ _) (.inl ⟨by omega, by omega⟩) hU hW)⟩
              case rest =>
                obtain ⟨p1, rfl, rfl, HD⟩ := hcut
                obtain ⟨D0, d0, D1, d1, hp1, kp1, hAD, hbc⟩ := HD.out
                have hx1 := (hbc.cell (p := ⟨ab, _, none⟩) hab').trans hx0
                have hne : p1 ≠ a7 := by omega
                replace HK7 := Lib.hid (HK7.out.next hbc)
                replace HC := Lib.hid (HC.out.next hbc)
                replace HB := Lib.hid (bNext HB.out hbc)
                have HP1 := Lib.hid kp1
                have HD := Lib.hid hAD
                clear hAD kp1 hbc hx0 hl7 hlw hab' hp1
                have z0 := HP1.out.cell 0
                have z1 := HP1.out.cell 1
                have z2 := HP1.out.cell 2
                have z3 := HP1.out.cell 3
                have z4 := HP1.out.cell 4
                simp at z0 z1 z2 z3 z4
                obtain ⟨hW, hU⟩ := put5 (a0 := .slice D0 u.files.length d0) (a1 := .slice D1 u.opn.length d1) (a2 := .int .i64 u.inp) (a3 := .int .i64 u.out) (a4 := .int .i64 u.nxt) HK7.out
                have fz0 := HK7.out.frozen 0
                have fz1 := HK7.out.frozen 1
                have fz2 := HK7.out.frozen 2
                have fz3 := HK7.out.frozen 3
                have fz4 := HK7.out.frozen 4
                have cz0 := HK7.out.cell 0
                have cz1 := HK7.out.cell 1
                have cz2 := HK7.out.cell 2
                have cz3 := HK7.out.cell 3
                have cz4 := HK7.out.cell 4
                simp at cz0 cz1 cz2 cz3 cz4
                have lz := HK7.out.lt
                obtain ⟨W4, HW⟩ : ∃ X, Hid (X = (((((wc.setCell ⟨a7, 0, none⟩ (.slice D0 u.files.length d0)).setCell ⟨a7, 1, none⟩ (.slice D1 u.opn.length d1)).setCell ⟨a7, 2, none⟩ (.int .i64 u.inp)).setCell ⟨a7, 3, none⟩ (.int .i64 u.out)).setCell ⟨a7, 4, none⟩ (.int .i64 u.nxt))) := ⟨_, rfl⟩
                rw [← HW.out] at hW hU
                go_upto_region 17 with fail
                rw [← HW.out]
                clear HW lz fz0 fz1 fz2 fz3 fz4 cz0 cz1 cz2 cz3 cz4
                replace HC := Lib.hid (HC.out.upd hU)
                replace HD := Lib.hid (HD.out.upd hU)
                replace HB := Lib.hid (hU.below HB.out h7w)
                replace HK7 := Lib.hid hW
                replace hx1 := (World.cell?_of_block (w := wc) (hU.block ab (by omega))).trans hx1
                clear hW hU
                clear z0 z1 z2 z3 z4
                have ET : Hid (textV u ⟨#[102]⟩ = some (a ++ pt)) := Lib.hid (text_f3 EU.out (by rw [hu.out]))
                have z0 := HK7.out.cell 0
                have z1 := HK7.out.cell 1
                have z2 := HK7.out.cell 2
                have z3 := HK7.out.cell 3
                have z4 := HK7.out.cell 4
                simp at z0 z1 z2 z3 z4
                go_wp2_with fail
                refine (text_any _ u ⟨#[102]⟩ _ HD.out.at).mono ?_
                rintro e w5 ⟨rfl, hbq⟩
                rw [ET.out]
                replace HK7 := Lib.hid (HK7.out.next hbq)
                replace HC := Lib.hid (HC.out.next hbq)
                replace HD := Lib.hid (HD.out.next hbq)
                replace HB := Lib.hid (bNext HB.out hbq)
                clear hbq
                simp only [Option.getD_some, Option.isSome_some]
                clear z0 z1 z2 z3 z4
                go_wp2_with fail
                exact ⟨⟨k + 1, by omega, by omega, by go_num, _, u, D0, d0, D1, d1, rfl, hsz, hu, HB, HK7, HD, EU⟩, by simp [intOf]; omega⟩
        · have hv := EVS.out
          rw [hs.out] at hv
          have hc := close_wt hv
          rw [← hs.out] at hc
          obtain ⟨f, hf⟩ : ∃ f, Hid (f = (⟨F3 a, [gIn, gOut], 0, 1, 3⟩ : Sm)) := ⟨_, rfl⟩
          rw [← hf.out] at hc
          have EC := Lib.hid hc
          have EVF := Lib.hid (close_valid hc)
          have ET : Hid (textV f ⟨#[102]⟩ = some a) := Lib.hid (text_f3 EVF.out (by rw [hf.out]))
          clear hv hc
          have z0 := HK7.out.cell 0
          have z1 := HK7.out.cell 1
          have z2 := HK7.out.cell 2
          have z3 := HK7.out.cell 3
          have z4 := HK7.out.cell 4
          simp at z0 z1 z2 z3 z4
          have hl7 := HK7.out.lt
          go_wp2_with fail
          refine (close_any _ s 2 _ HC.out.at).mono ?_
          rintro e w4 ⟨⟨v', rfl, ho⟩, hbq⟩
          rw [EC.out] at ho ⊢
          simp only [smOf, errOf] at ho ⊢
          have hsm := (ho.fresh (bnd EVF.out).1 (bnd EVF.out).2).apart (p := a7) (q := a7) (.inl hl7) (.inl hl7)
          obtain ⟨D0, d0, D1, d1, hv, -⟩ := id hsm
          obtain rfl : v' = .agg #[.slice D0 f.files.length d0, .slice D1 f.opn.length d1, .int .i64 f.inp, .int .i64 f.out, .int .i64 f.nxt] := hv
          replace HK7 := Lib.hid (HK7.out.next hbq)
          replace HC := Lib.hid (HC.out.next hbq)
          replace HB := Lib.hid (bNext HB.out hbq)
          have HD := Lib.hid hsm
          clear ho hsm hbq
          clear hl7
          clear z0 z1 z2 z3 z4
          obtain ⟨hW, hU⟩ := put5 (a0 := .slice D0 f.files.length d0) (a1 := .slice D1 f.opn.length d1) (a2 := .int .i64 f.inp) (a3 := .int .i64 f.out) (a4 := .int .i64 f.nxt) HK7.out
          have fz0 := HK7.out.frozen 0
          have fz1 := HK7.out.frozen 1
          have fz2 := HK7.out.frozen 2
          have fz3 := HK7.out.frozen 3
          have fz4 := HK7.out.frozen 4
          have cz0 := HK7.out.cell 0
          have cz1 := HK7.out.cell 1
          have cz2 := HK7.out.cell 2
          have cz3 := HK7.out.cell 3
          have cz4 := HK7.out.cell 4
          simp at cz0 cz1 cz2 cz3 cz4
          have lz := HK7.out.lt
          obtain ⟨W5, HW⟩ : ∃ X, Hid (X = (((((w4.setCell ⟨a7, 0, none⟩ (.slice D0 f.files.length d0)).setCell ⟨a7, 1, none⟩ (.slice D1 f.opn.length d1)).setCell ⟨a7, 2, none⟩ (.int .i64 f.inp)).setCell ⟨a7, 3, none⟩ (.int .i64 f.out)).setCell ⟨a7, 4, none⟩ (.int .i64 f.nxt))) := ⟨_, rfl⟩
          rw [← HW.out] at hW hU
          go_upto_region 28 with fail
          rw [← HW.out]
          clear HW lz fz0 fz1 fz2 fz3 fz4 cz0 cz1 cz2 cz3 cz4
          replace HC := Lib.hid (HC.out.upd hU)
          replace HD := Lib.hid (HD.out.upd hU)
          replace HB := Lib.hid (hU.below HB.out h7w)
          replace HK7 := Lib.hid hW
          clear hW hU
          have z0 := HK7.out.cell 0
          have z1 := HK7.out.cell 1
          have z2 := HK7.out.cell 2
          have z3 := HK7.out.cell 3
          have z4 := HK7.out.cell 4
          simp at z0 z1 z2 z3 z4
          go_wp2_with fail
          refine (text_any _ f ⟨#[102]⟩ _ HD.out.at).mono ?_
          rintro e w6 ⟨rfl, hbq⟩
          rw [ET.out]
          replace HK7 := Lib.hid (HK7.out.next hbq)
          replace HC := Lib.hid (HC.out.next hbq)
          replace HD := Lib.hid (HD.out.next hbq)
          replace HB := Lib.hid (bNext HB.out hbq)
          clear hbq
          simp only [Option.getD_some, Option.isSome_some]
          clear z0 z1 z2 z3 z4
          go_wp2_with fail
          refine (example_any _).mono ?_
          rintro e wx ⟨rfl, hbx⟩
          replace HB := Lib.hid (bNext HB.out hbx)
          clear hbx
          go_wp2_with fail
          go_ret
          exact ⟨rfl, HB.out⟩
      · have hv := EVS.out
        rw [hs.out] at hv
        have hc := close_wt hv
        rw [← hs.out] at hc
        obtain ⟨f, hf⟩ : ∃ f, Hid (f = (⟨F3 a, [gIn, gOut], 0, 1, 3⟩ : Sm)) := ⟨_, rfl⟩
        rw [← hf.out] at hc
        have EC := Lib.hid hc
        have EVF := Lib.hid (close_valid hc)
        have ET : Hid (textV f ⟨#[102]⟩ = some a) := Lib.hid (text_f3 EVF.out (by rw [hf.out]))
        clear hv hc
        have z0 := HK7.out.cell 0
        have z1 := HK7.out.cell 1
        have z2 := HK7.out.cell 2
        have z3 := HK7.out.cell 3
        have z4 := HK7.out.cell 4
        simp at z0 z1 z2 z3 z4
        have hl7 := HK7.out.lt
        go_wp2_with fail
        refine (close_any _ s 2 _ HC.out.at).mono ?_
        rintro e w4 ⟨⟨v', rfl, ho⟩, hbq⟩
        rw [EC.out] at ho ⊢
        simp only [smOf, errOf] at ho ⊢
        have hsm := (ho.fresh (bnd EVF.out).1 (bnd EVF.out).2).apart (p := a7) (q := a7) (.inl hl7) (.inl hl7)
        obtain ⟨D0, d0, D1, d1, hv, -⟩ := id hsm
        obtain rfl : v' = .agg #[.slice D0 f.files.length d0, .slice D1 f.opn.length d1, .int .i64 f.inp, .int .i64 f.out, .int .i64 f.nxt] := hv
        replace HK7 := Lib.hid (HK7.out.next hbq)
        replace HC := Lib.hid (HC.out.next hbq)
        replace HB := Lib.hid (bNext HB.out hbq)
        have HD := Lib.hid hsm
        clear ho hsm hbq
        clear hl7
        clear z0 z1 z2 z3 z4
        obtain ⟨hW, hU⟩ := put5 (a0 := .slice D0 f.files.length d0) (a1 := .slice D1 f.opn.length d1) (a2 := .int .i64 f.inp) (a3 := .int .i64 f.out) (a4 := .int .i64 f.nxt) HK7.out
        have fz0 := HK7.out.frozen 0
        have fz1 := HK7.out.frozen 1
        have fz2 := HK7.out.frozen 2
        have fz3 := HK7.out.frozen 3
        have fz4 := HK7.out.frozen 4
        have cz0 := HK7.out.cell 0
        have cz1 := HK7.out.cell 1
        have cz2 := HK7.out.cell 2
        have cz3 := HK7.out.cell 3
        have cz4 := HK7.out.cell 4
        simp at cz0 cz1 cz2 cz3 cz4
        have lz := HK7.out.lt
        obtain ⟨W5, HW⟩ : ∃ X, Hid (X = (((((w4.setCell ⟨a7, 0, none⟩ (.slice D0 f.files.length d0)).setCell ⟨a7, 1, none⟩ (.slice D1 f.opn.length d1)).setCell ⟨a7, 2, none⟩ (.int .i64 f.inp)).setCell ⟨a7, 3, none⟩ (.int .i64 f.out)).setCell ⟨a7, 4, none⟩ (.int .i64 f.nxt))) := ⟨_, rfl⟩
        rw [← HW.out] at hW hU
        go_upto_region 28 with fail
        rw [← HW.out]
        clear HW lz fz0 fz1 fz2 fz3 fz4 cz0 cz1 cz2 cz3 cz4
        replace HC := Lib.hid (HC.out.upd hU)
        replace HD := Lib.hid (HD.out.upd hU)
        replace HB := Lib.hid (hU.below HB.out h7w)
        replace HK7 := Lib.hid hW
        clear hW hU
        have z0 := HK7.out.cell 0
        have z1 := HK7.out.cell 1
        have z2 := HK7.out.cell 2
        have z3 := HK7.out.cell 3
        have z4 := HK7.out.cell 4
        simp at z0 z1 z2 z3 z4
        go_wp2_with fail
        refine (text_any _ f ⟨#[102]⟩ _ HD.out.at).mono ?_
        rintro e w6 ⟨rfl, hbq⟩
        rw [ET.out]
        replace HK7 := Lib.hid (HK7.out.next hbq)
        replace HC := Lib.hid (HC.out.next hbq)
        replace HD := Lib.hid (HD.out.next hbq)
        replace HB := Lib.hid (bNext HB.out hbq)
        clear hbq
        simp only [Option.getD_some, Option.isSome_some]
        clear z0 z1 z2 z3 z4
        go_wp2_with fail
        refine (example_any _).mono ?_
        rintro e wx ⟨rfl, hbx⟩
        replace HB := Lib.hid (bNext HB.out hbx)
        clear hbx
        go_wp2_with fail
        go_ret
        exact ⟨rfl, HB.out⟩
end Go.Proofs.Ytklpghpfdeojeaa
