/-
  The walks of the laws IntsUnary, IntsBinary, IntsParse, IntsText.
-/
import Derived.Test.YtcnbaioecoaopaaDoorAr
import Derived.Outline
namespace Go.Proofs.YtcnbaioecoaopaaDoor
open Go.RowKit
theorem txt_size {n : Int} (h : inR n) : (txt n).size ≤ 9223372036854775807 := by
  have h1 := Lib.itoa_length_le n h.1 h.2
  have h2 := size_len (txt n)
  unfold txt at h2 ⊢
  simp at h2
  omega
theorem dgt_dig {d : Nat} (h : d < 10) : dv (UInt8.ofNat (48 + d)) = d := by
  unfold dv dgt
  have e : (UInt8.ofNat (48 + d)).toNat = 48 + d := by simp; omega
  rw [e, if_pos (by omega)]
  omega
theorem dec_vals (u : Nat) : vals 10 (Lib.decDigits u) = u := by
  induction u using Nat.strongRecOn with
  | ind u ih =>
    by_cases h : u < 10
    · rw [dec_last h]
      have := dgt_dig h
      simp only [vals, List.foldl_cons, List.foldl_nil]
      rw [this]; omega
    · rw [dec_more h, vals_snoc, ih (u / 10) (by omega), dgt_dig (Nat.mod_lt _ (by decide))]
      omega
theorem dec_all (u : Nat) : ∀ c ∈ Lib.decDigits u, ∃ d, d < 10 ∧ c = UInt8.ofNat (48 + d) := by
  induction u using Nat.strongRecOn with
  | ind u ih =>
    by_cases h : u < 10
    · rw [dec_last h]
      intro c hc
      rw [List.mem_singleton] at hc
      exact ⟨u, h, hc⟩
    · rw [dec_more h]
      intro c hc
      rcases List.mem_append.1 hc with hc | hc
      · exact ih (u / 10) (by omega) c hc
      · rw [List.mem_singleton] at hc
        exact ⟨_, Nat.mod_lt _ (by decide), hc⟩
theorem dec_ne (u : Nat) : Lib.decDigits u ≠ [] := by
  by_cases h : u < 10
  · rw [dec_last h]; simp
  · rw [dec_more h]; simp
theorem dec_head (u : Nat) : ((Lib.decDigits u).head? == some 45) = false := by
  cases hl : Lib.decDigits u with
  | nil => rfl
  | cons c t =>
    obtain ⟨d, hd, he⟩ := dec_all u c (by rw [hl]; exact List.mem_cons_self ..)
    simp only [List.head?_cons, beq_eq_false_iff_ne, ne_eq, Option.some.injEq]
    intro e
    have e2 : (UInt8.ofNat (48 + d)).toNat = 48 + d := by simp; omega
    rw [he] at e
    rw [e] at e2
    have : (45 : UInt8).toNat = 45 := rfl
    omega
theorem prs_txt {n : Int} (h : inR n) : prs (txt n) 10 = (n, 0) := by
  have hall : ∀ u : Nat, ∀ k (hk : k < (Lib.decDigits u).length), dv (Lib.decDigits u)[k] < 10 := fun u k hk => by
    obtain ⟨d, hd, he⟩ := dec_all u _ (List.getElem_mem hk)
    rw [he, dgt_dig hd]; omega
  by_cases hn : n < 0
  · have ht : (txt n).data.toList = 45 :: Lib.decDigits n.natAbs := by
      unfold txt Lib.itoa; rw [if_pos hn]
    have hg : isNeg (txt n) = true := by unfold isNeg; rw [ht]; rfl
    have hd : digs (txt n) = Lib.decDigits n.natAbs := by unfold digs; rw [hg, if_pos rfl, ht]; rfl
    have hv : vals 10 (digs (txt n)) = (n.natAbs : Int) := by rw [hd, dec_vals]
    rw [prs_ok (by omega) (by rw [hd]; exact dec_ne _) (by simp only [hd]; exact hall _), hv, if_pos hg, ovf_in (by unfold inR at *; omega)]
    congr 1
    omega
  · have ht : (txt n).data.toList = Lib.decDigits n.natAbs := by
      unfold txt Lib.itoa; rw [if_neg hn, show n.toNat = n.natAbs by omega]
    have hg : isNeg (txt n) = false := by unfold isNeg; rw [ht]; exact dec_head _
    have hd : digs (txt n) = Lib.decDigits n.natAbs := by unfold digs; rw [hg, ht]; rfl
    have hv : vals 10 (digs (txt n)) = (n.natAbs : Int) := by rw [hd, dec_vals]
    rw [prs_ok (by omega) (by rw [hd]; exact dec_ne _) (by simp only [hd]; exact hall _), hv, hg, if_neg (by decide), ovf_in (by unfold inR at *; omega)]
    congr 1
    omega
theorem law_unary (x : ByteArray) (a ar : Int) (ha : inR a) (w : World) (ht : pow10At w) : Calls Tryd.prog 3 #[.string x, .int .i64 a, .int .i64 ar] w fun e w' => e = .returned (.bool true) ∧ Below w.heap.size w w' := by
  have HT := Lib.hid ht
  have HA := Lib.hid ha
  clear ht ha
  go_enter Tryd.func3, Tryd.ntmps3
  go_wp2_with fail
  refine (Unary_any x a HA.out _).mono ?_
  rintro e v1 ⟨rfl, hb⟩
  have HB := Lib.hid hb
  clear hb
  obtain ⟨r1, r2, hr⟩ := prod_ex (unS x a)
  rw [hr, pair]
  go_wp2_with fail
  refine (RUnary_any x a HA.out _).mono ?_
  rintro e v2 ⟨rfl, rfl⟩
  rw [hr, pair]
  clear hr
  go_wp2_with fail
  refine (Known_any x ar _).mono ?_
  rintro e v3 ⟨rfl, hb⟩
  have HB := Lib.hid (HB.out.trans (hb.mono HB.out.size))
  clear hb
  go_wp2_with fail
  refine (RKnown_any x ar _).mono ?_
  rintro e v4 ⟨rfl, hb⟩
  have HB := Lib.hid (HB.out.trans (hb.mono HB.out.size))
  clear hb
  generalize knS x ar = kn
  go_wp2_with fail
  refine (example_any _ (HT.out.below HB.out)).mono ?_
  rintro e v ⟨rfl, hb⟩
  have HB := Lib.hid (HB.out.trans (hb.mono HB.out.size))
  clear hb
  go_wp2_with fail
  go_ret
  exact ⟨rfl, HB.out⟩
theorem law_binary (x : ByteArray) (a b : Int) (ha : inR a) (hb : inR b) (w : World) (ht : pow10At w) : Calls Tryd.prog 4 #[.string x, .int .i64 a, .int .i64 b] w fun e w' => e = .returned (.bool true) ∧ Below w.heap.size w w' := by
  have HT := Lib.hid ht
  have HA := Lib.hid ha
  have HBB := Lib.hid hb
  clear ht ha hb
  go_enter Tryd.func4, Tryd.ntmps4
  go_wp2_with fail
  refine (Binary_any x a b HA.out HBB.out _).mono ?_
  rintro e v5 ⟨rfl, hb⟩
  have HB := Lib.hid hb
  clear hb
  obtain ⟨r1, r2, hr⟩ := prod_ex (binS x a b)
  rw [hr, pair]
  go_wp2_with fail
  refine (RBinary_any x a b HA.out HBB.out _).mono ?_
  rintro e v6 ⟨rfl, rfl⟩
  rw [hr, pair]
  clear hr
  go_wp2_with fail
  refine (example_any _ (HT.out.below HB.out)).mono ?_
  rintro e v ⟨rfl, hb⟩
  have HB := Lib.hid (HB.out.trans (hb.mono HB.out.size))
  clear hb
  go_wp2_with fail
  go_ret
  exact ⟨rfl, HB.out⟩
theorem law_parse (x : ByteArray) (b : Int) (hx : x.size ≤ 9223372036854775807) (w : World) (ht : pow10At w) : Calls Tryd.prog 5 #[.string x, .int .i64 b] w fun e w' => e = .returned (.bool true) ∧ Below w.heap.size w w' := by
  have HT := Lib.hid ht
  clear ht
  go_enter Tryd.func5, Tryd.ntmps5
  go_wp2_with fail
  refine (Parse_any x b hx _).mono ?_
  rintro e v7 ⟨rfl, rfl⟩
  obtain ⟨r1, r2, hr⟩ := prod_ex (prs x b)
  rw [hr, pair]
  go_wp2_with fail
  refine (RParse_any x b hx _).mono ?_
  rintro e v8 ⟨rfl, rfl⟩
  rw [hr, pair]
  clear hr
  go_wp2_with fail
  refine (example_any _ (HT.out)).mono ?_
  rintro e v ⟨rfl, hb⟩
  have HB := Lib.hid hb
  clear hb
  go_wp2_with fail
  go_ret
  exact ⟨rfl, HB.out⟩
theorem law_text (n : Int) (hn : inR n) (w : World) (ht : pow10At w) : Calls Tryd.prog 6 #[.int .i64 n] w fun e w' => e = .returned (.bool true) ∧ Below w.heap.size w w' := by
  have HT := Lib.hid ht
  have HN := Lib.hid hn
  clear ht hn
  go_enter Tryd.func6, Tryd.ntmps6
  go_wp2_with fail
  refine (Text_any n HN.out _ HT.out).mono ?_
  rintro e v1 ⟨rfl, hb⟩
  have HB := Lib.hid hb
  clear hb
  go_wp2_with fail
  refine (Parse_any (txt n) 10 (txt_size HN.out) _).mono ?_
  rintro e v2 ⟨rfl, rfl⟩
  rw [prs_txt HN.out, pair]
  go_wp2_with fail
  refine (RText_any n HN.out _).mono ?_
  rintro e v3 ⟨rfl, hb⟩
  have HB := Lib.hid (HB.out.trans (hb.mono HB.out.size))
  clear hb
  generalize txt n = s
  go_wp2_with fail
  refine (example_any _ (HT.out.below HB.out)).mono ?_
  rintro e v ⟨rfl, hb⟩
  have HB := Lib.hid (HB.out.trans (hb.mono HB.out.size))
  clear hb
  go_wp2_with fail
  go_ret
  exact ⟨rfl, HB.out⟩
end Go.Proofs.YtcnbaioecoaopaaDoor
