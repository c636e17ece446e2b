/-
  Walk: the law StreamsNew.
-/
import Derived.Test.YtklpghpfdeojeaaXa
import Derived.Test.YtklpghpfdeojeaaWa
import Derived.Test.YtklpghpfdeojeaaVg
import Derived.Test.YtklpghpfdeojeaaSh
import Derived.Deep.Cut
namespace Go.Proofs.Ytklpghpfdeojeaa
open Go.RowKit

theorem newV_cases (l : List F) : (∃ er, newV l = .error er ∧ (er = 1 ∨ er = 13)) ∨ (newV l = .ok (newS l) ∧ validB (newS l) = true ∧ (newS l).files.length ≤ 16) := by
  cases h : orderedB l
  · exact .inl ⟨1, newV_bad h, .inl rfl⟩
  · rw [newV_go h]
    by_cases h16 : 16 < (newFiles l).length
    · exact .inl ⟨13, by rw [if_pos h16], .inr rfl⟩
    · exact .inr ⟨by rw [if_neg h16], new_valid h (by omega), by show (newFiles l).length ≤ 16; omega⟩

set_option maxHeartbeats 4000000 in
theorem law_new (A : Option Addr) (n c : Nat) (l : List F) (w : World) (ha : FilesAt w w.heap.size A n l) (hcap : CapOk A n c) (hn : n ≤ 4398046510976) :
    Calls Try.prog 3 #[.slice A n c] w fun e w' => e = .returned (.bool true) ∧ Below w.heap.size w w' := by
  have HA := Lib.hid ha
  have HC := Lib.hid hcap
  clear ha hcap
  obtain ⟨r, hr⟩ : ∃ r, newV l = r := ⟨_, rfl⟩
  obtain ⟨s, hs⟩ : ∃ s, smOf r = s := ⟨_, rfl⟩
  have hcase : ((∃ er, errOf r = er ∧ (er = 1 ∨ er = 13)) ∨ (errOf r = 0 ∧ validB s = true)) ∧ s.files.length ≤ 16 ∧ s.opn.length ≤ 16 := by
    rw [← hs, ← hr]
    rcases newV_cases l with ⟨er, h1, h2⟩ | ⟨h1, h2, h3⟩
    · rw [h1]; exact ⟨.inl ⟨er, rfl, h2⟩, Nat.zero_le _, Nat.zero_le _⟩
    · rw [h1]; exact ⟨.inr ⟨rfl, h2⟩, h3, by show (2 : Nat) ≤ 16; omega⟩
  obtain ⟨hc1, hf16, ho16⟩ := hcase
  obtain ⟨er, her⟩ : ∃ er, errOf r = er := ⟨_, rfl⟩
  rw [her] at hc1
  have HER := Lib.hid her
  have HSM := Lib.hid hs
  have HR := Lib.hid hr
  have HCS := Lib.hid hc1
  clear hr hs her hc1
  go_enter Try.func3, Try.ntmps3
  go_wp2_with fail
  refine (new_any A n c l _ HA.out HC.out hn).mono ?_
  rintro e w1 ⟨⟨v', rfl, ho⟩, hb1⟩
  rw [HR.out] at ho ⊢
  rw [HSM.out] at ho
  rw [HER.out]
  obtain ⟨v0, v1, rfl, o0, o1⟩ := id ho
  obtain ⟨D0, e0, rfl, -⟩ := own_form o0
  obtain ⟨D1, e1, rfl, -⟩ := own_form o1
  have HS0 := Lib.hid (OwnS.read ho (by omega) (by omega))
  have HB1 := Lib.hid hb1
  clear ho o0 o1 hb1
  go_wp2_with fail
  have hbA := bAlloc w1 (.cells #[.slice D0 s.files.length e0, .slice D1 s.opn.length e1, .int .i64 s.inp, .int .i64 s.out, .int .i64 s.nxt] 25)
  have HB1a := Lib.hid (bNext HB1.out hbA)
  refine (New_any A n c l _ (HA.out.next HB1a.out) HC.out hn).mono ?_
  rintro e w2 ⟨⟨v', rfl, ho⟩, hb2⟩
  rw [HR.out] at ho ⊢
  rw [HSM.out] at ho
  rw [HER.out]
  obtain ⟨v0, v1, rfl, o0, o1⟩ := id ho
  obtain ⟨E0, f0, rfl, -⟩ := own_form o0
  obtain ⟨E1, f1, rfl, -⟩ := own_form o1
  have HS1 := Lib.hid (OwnS.read ho (by omega) (by omega))
  have HB2 := Lib.hid (bNext HB1a.out hb2)
  have HS0a := Lib.hid ((HS0.out.next hbA).next hb2)
  have kn2 := (Blk.new w1 25 #[.slice D0 s.files.length e0, .slice D1 s.opn.length e1, .int .i64 s.inp, .int .i64 s.out, .int .i64 s.nxt]).next hb2
  clear ho o0 o1 hb2 hbA HS0
  have hbA := bAlloc w2 (.cells #[.slice E0 s.files.length f0, .slice E1 s.opn.length f1, .int .i64 s.inp, .int .i64 s.out, .int .i64 s.nxt] 25)
  have HB2a := Lib.hid (bNext HB2.out hbA)
  obtain ⟨W, HW⟩ : ∃ W, Hid (W = w2.alloc (.cells #[.slice E0 s.files.length f0, .slice E1 s.opn.length f1, .int .i64 s.inp, .int .i64 s.out, .int .i64 s.nxt] 25)) := ⟨_, rfl⟩
  have kn := kn2.next hbA
  have kb := Blk.new w2 25 #[.slice E0 s.files.length f0, .slice E1 s.opn.length f1, .int .i64 s.inp, .int .i64 s.out, .int .i64 s.nxt]
  have HS0b := Lib.hid (HS0a.out.next hbA)
  have HS1b := Lib.hid (HS1.out.next hbA)
  rw [← HW.out] at kn kb HS0b HS1b HB2a
  obtain ⟨p0, p1, p2, p3, p4⟩ := smBox' kn
  obtain ⟨q0, q1, q2, q3, q4⟩ := smBox' kb
  have hzn := kn.lt
  have hzb := kb.lt
  clear hbA kn2 HS0a HS1
  go_upto_region 3 with fail
  rw [← HW.out]
  clear HW
  go_wp2_with fail
  refine (same12_any _ _ s _ HS0b.out HS1b.out).mono ?_
  rintro e w3 ⟨rfl, hb3⟩
  have HB3 := Lib.hid (bNext HB2a.out hb3)
  have HS3 := Lib.hid (HS0b.out.next hb3)
  have kn3 := kn.next hb3
  clear p0 p1 p2 p3 p4 q0 q1 q2 q3 q4 hb3 hzn hzb
  obtain ⟨p0, p1, p2, p3, p4⟩ := smBox' kn3
  have hzn := kn3.lt
  rcases HCS.out with ⟨er', rfl, rfl | rfl⟩ | ⟨rfl, hv⟩
  · go_wp2_with fail
    refine (example_any _).mono ?_
    rintro e w4 ⟨rfl, hb4⟩
    have HB4 := Lib.hid (bNext HB3.out hb4)
    clear hb4
    go_wp2_with fail
    go_ret
    exact ⟨rfl, HB4.out⟩
  · go_wp2_with fail
    refine (example_any _).mono ?_
    rintro e w4 ⟨rfl, hb4⟩
    have HB4 := Lib.hid (bNext HB3.out hb4)
    clear hb4
    go_wp2_with fail
    go_ret
    exact ⟨rfl, HB4.out⟩
  · have HV := Lib.hid hv
    clear hv
    go_wp2_with fail
    refine (valid_any _ s _ HS3.out).mono ?_
    rintro e w4 ⟨rfl, hb4⟩
    rw [HV.out]
    have HB4 := Lib.hid (bNext HB3.out hb4)
    clear hb4
    go_wp2_with fail
    refine (example_any _).mono ?_
    rintro e w5 ⟨rfl, hb5⟩
    have HB5 := Lib.hid (bNext HB4.out hb5)
    clear hb5
    go_wp2_with fail
    go_ret
    exact ⟨rfl, HB5.out⟩
end Go.Proofs.Ytklpghpfdeojeaa
