/-
  Law: Text and Parse undo each other.
-/
import Derived.Test.YtbipeakinmbdiaaGreatDoorKv
import Derived.Test.YtbipeakinmbdiaaGreatDoorXLp
import Derived.Test.YtbipeakinmbdiaaGreatDoorXLq
import Derived.Test.YtbipeakinmbdiaaGreatDoorXh
namespace Go.Proofs.YtbipeakinmbdiaaGreatDoor
open Go.RowKit

theorem str_nil (l : List UInt8) : (S l).toList = l := by rw [ByteArray.toList_eq, S_list]
theorem textV_cases (b : Bk) : (textV b = (textL b, 0) ∧ vaP b = true ∧ (textL b).length ≤ 16384) ∨ (textV b = ([], 2) ∧ vaP b = true) ∨ (textV b = ([], 1) ∧ vaP b = false) := by
  unfold textV
  cases hv : vaP b
  · exact .inr (.inr ⟨rfl, rfl⟩)
  · by_cases h : 16384 < (textL b).length
    · exact .inr (.inl ⟨by rw [if_pos rfl, if_pos h], rfl⟩)
    · exact .inl ⟨by rw [if_pos rfl, if_neg h], rfl, by omega⟩
set_option maxRecDepth 100000 in
set_option maxHeartbeats 2000000 in
theorem law_back (b : Bk) (A : Option Addr) (c : Nat) (t : List UInt8) (w : World) (hE : Env w) (ha : InsAt w w.heap.size A b.code.length b.code) (hr : RgB b) :
    Calls Tryz.prog 9 #[b.v A c, .string (S t)] w fun e w' => e = .returned (.bool true) ∧ Below w.heap.size w w' := by
  obtain ⟨w1, hw1⟩ : ∃ X, Hid (X = w.alloc (.cells (bkC b A b.code.length c) 28)) := ⟨_, rfl⟩
  obtain ⟨p, hp⟩ : ∃ p, Hid (p = w.heap.size) := ⟨_, rfl⟩
  have HP := Lib.hid (show Blk w1 p 28 (bkC b A b.code.length c) by rw [hw1.out, hp.out]; exact Blk.new _ _ _)
  have HK := Lib.hid (show Below w.heap.size w w1 by rw [hw1.out]; exact bAlloc _ _)
  have HE := Lib.hid (hE.next HK.out)
  have HA := Lib.hid (ha.next HK.out)
  have HR := Lib.hid hr
  clear hE ha hr
  go_enter Tryz.func9, Tryz.ntmps9
  go_upto_region 1 with fail
  rw [← hw1.out, ← hp.out]
  have t0 := HP.out.cell 0
  have t1 := HP.out.cell 1
  have t2 := HP.out.cell 2
  have t3 := HP.out.cell 3
  have t4 := HP.out.cell 4
  have t5 := HP.out.cell 5
  have t6 := HP.out.cell 6
  have t7 := HP.out.cell 7
  have t8 := HP.out.cell 8
  have tl := HP.out.lt
  simp at t0 t1 t2 t3 t4 t5 t6 t7 t8
  go_wp2_with fail
  refine (text_any b A c w1 HA.out HR.out HE.out).mono ?_
  rintro e w2 ⟨rfl, hb⟩
  have HB2 := Lib.hid hb
  have HK2 := Lib.hid (bNext HK.out hb)
  have HP2 := Lib.hid (HP.out.next hb)
  have HA2 := Lib.hid (HA.out.next hb)
  have HE2 := Lib.hid (HE.out.next hb)
  clear hb t0 t1 t2 t3 t4 t5 t6 t7 t8 tl
  obtain ⟨s, hs⟩ : ∃ s, Hid (s = (textV b).1) := ⟨_, rfl⟩
  obtain ⟨m, hm⟩ : ∃ s, Hid (s = (textV b).2) := ⟨_, rfl⟩
  rw [← hs.out, ← hm.out]
  obtain ⟨tb, htb⟩ : ∃ tb, (m == 0) = tb := ⟨_, rfl⟩
  go_upto_if 21 with fail
  have HTB := Lib.hid htb
  clear htb
  go_cut [] from 7 to 53 (fun wx => Hid (Below w2.heap.size w2 wx))
  case first =>
    rcases textV_cases b with ⟨h1, h2, h3⟩ | ⟨h1, h2⟩ | ⟨h1, h2⟩
    · have es : s = textL b := by rw [hs.out, h1]
      have em : m = 0 := by rw [hm.out, h1]
      have et : tb = true := by rw [← HTB.out, em]; rfl
      clear hs hm HTB
      subst es em et
      have HV := Lib.hid h2
      have HPT := Lib.hid (parse_text h2 HR.out h3)
      have HL := Lib.hid h3
      clear h1 h2 h3
      go_wp2_with fail
      refine (parse_any (textL b) w2 HE2.out (by have := HL.out; omega)).mono ?_
      rintro e w3 ⟨A3, n3, c3, hn3, rfl, ho3, hb3⟩
      rw [HPT.out] at hn3 ho3 ⊢
      have hI := own_ins' ho3 (by have := (va_parts HV.out).2.2.1; rw [hn3]; simp only; omega)
      rw [hn3] at hI
      have HI3 := Lib.hid (hI.next (bAlloc w3 (.cells (bkC b A3 b.code.length c3) 28)))
      have HB3 := Lib.hid ((hb3).alloc hb3.size (.cells (bkC b A3 b.code.length c3) 28))
      clear hn3 ho3 hb3 hI
      go_upto_region 4 with fail
      obtain ⟨w4, hw4⟩ : ∃ X, Hid (X = w3.alloc (.cells (bkC b A3 b.code.length c3) 28)) := ⟨_, rfl⟩
      obtain ⟨q, hq⟩ : ∃ X, Hid (X = w3.heap.size) := ⟨_, rfl⟩
      rw [show w3.alloc (.cells (bkC b A3 b.code.length c3) 28) = w4 from hw4.out.symm, ← hq.out]
      have HQ4 := Lib.hid (show Blk w4 q 28 (bkC b A3 b.code.length c3) by rw [hw4.out, hq.out]; exact Blk.new _ _ _)
      rw [← hw4.out] at HI3 HB3
      have HP4 := Lib.hid (HP2.out.next HB3.out)
      have HA4 := Lib.hid (HA2.out.next HB3.out)
      clear hw4 hq
      have t0 := HP4.out.cell 0
      have t1 := HP4.out.cell 1
      have t2 := HP4.out.cell 2
      have t3 := HP4.out.cell 3
      have t4 := HP4.out.cell 4
      have t5 := HP4.out.cell 5
      have t6 := HP4.out.cell 6
      have t7 := HP4.out.cell 7
      have t8 := HP4.out.cell 8
      have tl := HP4.out.lt
      simp at t0 t1 t2 t3 t4 t5 t6 t7 t8
      have s0 := HQ4.out.cell 0
      have s1 := HQ4.out.cell 1
      have s2 := HQ4.out.cell 2
      have s3 := HQ4.out.cell 3
      have s4 := HQ4.out.cell 4
      have s5 := HQ4.out.cell 5
      have s6 := HQ4.out.cell 6
      have s7 := HQ4.out.cell 7
      have s8 := HQ4.out.cell 8
      have sl := HQ4.out.lt
      simp at s0 s1 s2 s3 s4 s5 s6 s7 s8
      go_wp2_with fail
      refine (Same_any b b A A3 c c3 w4 HA4.out HI3.out).mono ?_
      rintro e w5 ⟨rfl, hb5⟩
      rw [decide_eq_true (rfl : b = b)]
      have HB5 := Lib.hid (bNext HB3.out hb5)
      have HP5 := Lib.hid (HP4.out.next hb5)
      have HA5 := Lib.hid (HA4.out.next hb5)
      clear t0 t1 t2 t3 t4 t5 t6 t7 t8 tl s0 s1 s2 s3 s4 s5 s6 s7 s8 sl hb5
      have t0 := HP5.out.cell 0
      have t1 := HP5.out.cell 1
      have t2 := HP5.out.cell 2
      have t3 := HP5.out.cell 3
      have t4 := HP5.out.cell 4
      have t5 := HP5.out.cell 5
      have t6 := HP5.out.cell 6
      have t7 := HP5.out.cell 7
      have t8 := HP5.out.cell 8
      have tl := HP5.out.lt
      simp at t0 t1 t2 t3 t4 t5 t6 t7 t8
      go_wp2_with fail
      refine (valid_any b A c w5 HA5.out).mono ?_
      rintro e w6 ⟨rfl, hb6⟩
      rw [HV.out]
      have HB6 := Lib.hid (bNext HB5.out hb6)
      clear t0 t1 t2 t3 t4 t5 t6 t7 t8 tl hb6
      go_wp2_with fail
      go_meet
      exact HB6
    · have es : s = [] := by rw [hs.out, h1]
      have em : m = 2 := by rw [hm.out, h1]
      have et : tb = false := by rw [← HTB.out, em]; rfl
      clear hs hm HTB
      subst es em et
      have HV := Lib.hid h2
      clear h1 h2
      rw [show S [] = (⟨#[]⟩ : ByteArray) from rfl]
      have t0 := HP2.out.cell 0
      have t1 := HP2.out.cell 1
      have t2 := HP2.out.cell 2
      have t3 := HP2.out.cell 3
      have t4 := HP2.out.cell 4
      have t5 := HP2.out.cell 5
      have t6 := HP2.out.cell 6
      have t7 := HP2.out.cell 7
      have t8 := HP2.out.cell 8
      have tl := HP2.out.lt
      simp at t0 t1 t2 t3 t4 t5 t6 t7 t8
      go_wp2_with fail
      refine (valid_any b A c w2 HA2.out).mono ?_
      rintro e w6 ⟨rfl, hb6⟩
      rw [HV.out]
      have HB6 := Lib.hid hb6
      clear t0 t1 t2 t3 t4 t5 t6 t7 t8 tl hb6
      go_wp2_with fail
      go_meet
      exact HB6
    · have es : s = [] := by rw [hs.out, h1]
      have em : m = 1 := by rw [hm.out, h1]
      have et : tb = false := by rw [← HTB.out, em]; rfl
      clear hs hm HTB
      subst es em et
      have HV := Lib.hid h2
      clear h1 h2
      rw [show S [] = (⟨#[]⟩ : ByteArray) from rfl]
      have t0 := HP2.out.cell 0
      have t1 := HP2.out.cell 1
      have t2 := HP2.out.cell 2
      have t3 := HP2.out.cell 3
      have t4 := HP2.out.cell 4
      have t5 := HP2.out.cell 5
      have t6 := HP2.out.cell 6
      have t7 := HP2.out.cell 7
      have t8 := HP2.out.cell 8
      have tl := HP2.out.lt
      simp at t0 t1 t2 t3 t4 t5 t6 t7 t8
      go_wp2_with fail
      refine (valid_any b A c w2 HA2.out).mono ?_
      rintro e w6 ⟨rfl, hb6⟩
      rw [HV.out]
      have HB6 := Lib.hid hb6
      clear t0 t1 t2 t3 t4 t5 t6 t7 t8 tl hb6
      go_wp2_with fail
      go_meet
      exact HB6
  case rest =>
    have HKC := Lib.hid (bNext HK2.out hcut.out)
    have HEC := Lib.hid (HE2.out.next hcut.out)
    clear hcut HP2 HA2 HE2 hs hm
    go_wp2_with fail
    refine (parse_all t wc HEC.out).mono ?_
    rintro e w3 ⟨A3, n3, c3, hn3, rfl, ho3, hb3⟩
    obtain ⟨⟨d, ln, er⟩, hpv⟩ : ∃ r, r = parseV t := ⟨_, rfl⟩
    have HPV := Lib.hid hpv.symm
    have HRD := Lib.hid (show RgB d by have := parse_rg t; rw [← hpv] at this; exact this)
    rw [← hpv] at hn3 ho3 ⊢
    clear hpv
    have HN3 := Lib.hid hn3
    have HO3 := Lib.hid ho3
    have HB3 := Lib.hid ((hb3).alloc hb3.size (.cells (bkC d A3 d.code.length c3) 28))
    clear hn3 ho3 hb3
    go_upto_region 9 with fail
    obtain ⟨w4, hw4⟩ : ∃ X, Hid (X = w3.alloc (.cells (bkC d A3 d.code.length c3) 28)) := ⟨_, rfl⟩
    obtain ⟨q, hq⟩ : ∃ X, Hid (X = w3.heap.size) := ⟨_, rfl⟩
    rw [show w3.alloc (.cells (bkC d A3 d.code.length c3) 28) = w4 from hw4.out.symm, ← hq.out]
    have HQ4 := Lib.hid (show Blk w4 q 28 (bkC d A3 d.code.length c3) by rw [hw4.out, hq.out]; exact Blk.new _ _ _)
    rw [← hw4.out] at HB3
    have HK4 := Lib.hid (bNext HKC.out HB3.out)
    have HE4 := Lib.hid (HEC.out.next HB3.out)
    by_cases he : er = 0
    · subst he
      obtain ⟨g1, g2, g3, g4⟩ := parse_ok HPV.out
      subst g2 g3
      have HV := Lib.hid g1
      have HTV := Lib.hid (show textV d = (textL d, 0) by unfold textV; rw [if_pos g1, if_neg (by omega)])
      have HI4 := Lib.hid (show InsAt w4 w4.heap.size A3 d.code.length d.code by
        have hI := own_ins' HO3.out (by have := (va_parts g1).2.2.1; have h2 := HN3.out; (try simp only at h2); omega)
        rw [HN3.out] at hI
        rw [hw4.out]
        exact hI.next (bAlloc _ _))
      clear g1 g4 hw4 hq
      have s0 := HQ4.out.cell 0
      have s1 := HQ4.out.cell 1
      have s2 := HQ4.out.cell 2
      have s3 := HQ4.out.cell 3
      have s4 := HQ4.out.cell 4
      have s5 := HQ4.out.cell 5
      have s6 := HQ4.out.cell 6
      have s7 := HQ4.out.cell 7
      have s8 := HQ4.out.cell 8
      have sl := HQ4.out.lt
      simp at s0 s1 s2 s3 s4 s5 s6 s7 s8
      go_wp2_with fail
      refine (text_any d A3 c3 w4 HI4.out HRD.out HE4.out).mono ?_
      rintro e w5 ⟨rfl, hb5⟩
      rw [HTV.out]
      have HK5 := Lib.hid (bNext HK4.out hb5)
      have HE5 := Lib.hid (HE4.out.next hb5)
      have HQ5 := Lib.hid (HQ4.out.next hb5)
      have HI5 := Lib.hid (HI4.out.next hb5)
      clear s0 s1 s2 s3 s4 s5 s6 s7 s8 sl hb5
      have s0 := HQ5.out.cell 0
      have s1 := HQ5.out.cell 1
      have s2 := HQ5.out.cell 2
      have s3 := HQ5.out.cell 3
      have s4 := HQ5.out.cell 4
      have s5 := HQ5.out.cell 5
      have s6 := HQ5.out.cell 6
      have s7 := HQ5.out.cell 7
      have s8 := HQ5.out.cell 8
      have sl := HQ5.out.lt
      simp at s0 s1 s2 s3 s4 s5 s6 s7 s8
      go_wp2_with fail
      refine (valid_any d A3 c3 w5 HI5.out).mono ?_
      rintro e w6 ⟨rfl, hb6⟩
      rw [HV.out]
      have HK6 := Lib.hid (bNext HK5.out hb6)
      have HE6 := Lib.hid (HE5.out.next hb6)
      clear s0 s1 s2 s3 s4 s5 s6 s7 s8 sl hb6
      go_wp2_with fail
      refine (awake_any w6 HE6.out).mono ?_
      rintro e w7 ⟨rfl, hb7⟩
      have HK7 := Lib.hid (bNext HK6.out hb7)
      clear hb7
      go_wp2_with fail
      go_ret
      exact ⟨rfl, HK7.out⟩
    · obtain ⟨g1, g2⟩ := parse_err HPV.out he
      have et : (er == 0) = false := by simpa using he
      obtain ⟨u, hu⟩ : ∃ u, Hid (u = decide (0 < ln)) := ⟨_, rfl⟩
      have hu1 : decide (0 < ln) = u := hu.out.symm
      have hu2 : (er == 3) = u := by
        rw [hu.out]
        rcases g2 with ⟨h1, h2⟩ | ⟨h1 | h1, h2⟩
        · rw [h1, decide_eq_true h2]; rfl
        · rw [h1, h2]; rfl
        · rw [h1, h2]; rfl
      clear g2 he HPV HRD
      subst g1
      have HI4 := Lib.hid (show InsAt w4 w4.heap.size A3 0 [] by exact InsAt.nil _ _ _)
      clear hw4 hq
      have s0 := HQ4.out.cell 0
      have s1 := HQ4.out.cell 1
      have s2 := HQ4.out.cell 2
      have s3 := HQ4.out.cell 3
      have s4 := HQ4.out.cell 4
      have s5 := HQ4.out.cell 5
      have s6 := HQ4.out.cell 6
      have s7 := HQ4.out.cell 7
      have s8 := HQ4.out.cell 8
      have sl := HQ4.out.lt
      simp at s0 s1 s2 s3 s4 s5 s6 s7 s8
      go_wp2_with fail
      refine (Same_any zBk zBk A3 none c3 0 w4 HI4.out (InsAt.nil _ _ _)).mono ?_
      rintro e w5 ⟨rfl, hb5⟩
      rw [decide_eq_true (rfl : zBk = zBk)]
      have HK5 := Lib.hid (bNext HK4.out hb5)
      have HE5 := Lib.hid (HE4.out.next hb5)
      clear s0 s1 s2 s3 s4 s5 s6 s7 s8 sl hb5
      go_wp2_with fail
      refine (awake_any w5 HE5.out).mono ?_
      rintro e w7 ⟨rfl, hb7⟩
      have HK7 := Lib.hid (bNext HK5.out hb7)
      clear hb7
      go_wp2_with fail
      go_ret
      exact ⟨rfl, HK7.out⟩
end Go.Proofs.YtbipeakinmbdiaaGreatDoor
