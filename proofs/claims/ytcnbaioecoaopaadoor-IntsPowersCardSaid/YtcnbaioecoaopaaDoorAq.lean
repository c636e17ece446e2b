/-
  The walks of Text, both.
-/
import Derived.Test.YtcnbaioecoaopaaDoorSh
import Derived.Test.YtcnbaioecoaopaaDoorAp
import Derived.Lib.ItoaLen
import Derived.WalkSmall
import Derived.Outline
namespace Go.Proofs.YtcnbaioecoaopaaDoor
open Go.RowKit
def pow10At (w : World) : Prop := Lib.TabIs Tryd.prog w "internal/strconv.uint64pow10" .u64 Lib.pow10Tab
theorem pow10At.below {w w' : World} (h : pow10At w) (hb : Below w.heap.size w w') : pow10At w' := by
  unfold pow10At Lib.TabIs World.var? at *
  cases hg : Tryd.prog.globalNamed "internal/strconv.uint64pow10" with
  | none => simp [hg] at h
  | some g =>
    simp only [hg, Option.bind_some] at h ⊢
    have hlt : g < w.heap.size := by
      rcases Nat.lt_or_ge g w.heap.size with h' | h'
      · exact h'
      · rw [Array.getElem?_eq_none h'] at h; simp at h
    rw [hb.block g hlt]
    exact h
def txt (n : Int) : ByteArray := ⟨(Lib.itoa n).toArray⟩
theorem ret_str {a b : ByteArray} (h : a = b) : Ending.returned (.string a) = .returned (.string b) := by rw [h]
theorem grow_below (w : World) (k : Nat) (os : Array Obj) : Below w.heap.size w (Sort.grow (w.drewN k) os) :=
  ⟨rfl, rfl, rfl, by simp [Sort.grow, World.drewN], fun j hj => by
    show ((w.drewN k).heap ++ os)[j]? = _
    rw [Array.getElem?_append_left (show j < (w.drewN k).heap.size from hj)]; rfl⟩
theorem Text_any (n : Int) (hn : inR n) (w : World) (ht : pow10At w) : Calls Tryd.prog 22 #[.int .i64 n] w fun e w' => e = .returned (.string (txt n)) ∧ Below w.heap.size w w' := by
  have HN := Lib.hid hn
  have HT := Lib.hid ht
  clear hn ht
  go_enter Tryd.func22, Tryd.ntmps22
  go_wp2_with fail
  refine (Tryd.strconv_FormatInt_10 n HN.out.1 HN.out.2 _ HT.out).mono ?_
  rintro e w1 ⟨rfl, k, os, rfl⟩
  go_wp2_with fail
  go_ret
  exact ⟨rfl, grow_below _ _ _⟩
theorem one_byte (w : World) (v : Int) (d : Nat) (hd : d < 10) (h : v = 48 + (d : Int)) :
    (convert 56 9 (.slice (some ⟨w.heap.size, 0, none⟩) 1 1)).run Tryd.prog (w.alloc (.cells #[.int .u8 v] 5)) = .ok (.string ⟨#[UInt8.ofNat (48 + d)]⟩) (w.alloc (.cells #[.int .u8 v] 5)) := by
  have := run_convert_bytes_back (P := Tryd.prog) (w.alloc (.cells #[.int .u8 v] 5)) 56 9 5 ⟨w.heap.size, 0, none⟩ 1 [UInt8.ofNat (48 + d)] Tryd.underlying56 Tryd.underlying5 Tryd.underlying9 (fun j hj => by
    have hj0 : j = 0 := by simpa using hj
    subst hj0
    simp only [Addr.add, List.getElem_cons_zero]
    rw [h]
    simp
    omega)
  exact this
theorem dec_last {u : Nat} (h : u < 10) : Lib.decDigits u = [UInt8.ofNat (48 + u)] := by
  rw [Lib.decDigits, dif_pos h]
theorem dec_more {u : Nat} (h : ¬ u < 10) : Lib.decDigits u = Lib.decDigits (u / 10) ++ [UInt8.ofNat (48 + u % 10)] := by
  rw [Lib.decDigits, dif_neg h]
theorem data_app (a b : ByteArray) : (a ++ b).data.toList = a.data.toList ++ b.data.toList := by simp
theorem txt_neg {n : Int} (h : n < 0) {l : ByteArray} (hl : Lib.decDigits n.natAbs = l.data.toList) : txt n = ⟨#[45]⟩ ++ l := by
  unfold txt Lib.itoa
  rw [if_pos h, hl]
  obtain ⟨d⟩ := l
  simp only at hl ⊢
  apply (eqS_iff _ _).1
  rw [eqS_data, data_app]
  simp
theorem dec_len {n : Int} (h : inR n) : (Lib.decDigits n.natAbs).length ≤ 21 := by
  have := Lib.itoa_length_le n h.1 h.2
  unfold Lib.itoa at this
  split at this
  · simp at this; omega
  · rwa [show n.toNat = n.natAbs by omega] at this
theorem txt_pos {n : Int} (h : ¬ n < 0) {l : ByteArray} (hl : Lib.decDigits n.natAbs = l.data.toList) : txt n = l := by
  unfold txt Lib.itoa
  rw [if_neg h, show n.toNat = n.natAbs by omega, hl]
set_option maxHeartbeats 1000000 in
theorem RText_any (n : Int) (hn : inR n) (w : World) : Calls Tryd.prog 23 #[.int .i64 n] w fun e w' => e = .returned (.string (txt n)) ∧ Below w.heap.size w w' := by
  have HN := Lib.hid hn
  have hn1 := hn.1
  have hn2 := hn.2
  have hq0 : ∀ q : Nat, 0 < q → ((q : Int) == 0) = false := fun q h => by rw [beq_eq_false_iff_ne]; omega
  have HQ := Lib.hid hq0
  clear hn hq0
  go_enter Tryd.func23, Tryd.ntmps23
  go_wp2_with fail
  go_loopw [3, 4] (fun s m wr => ∃ (l : ByteArray) (x : Int), s = .string l ∧ m = .int .i64 x ∧ Hid (inR x) ∧ Hid (Below w.heap.size w wr) ∧ Hid (Lib.decDigits n.natAbs = Lib.decDigits x.natAbs ++ l.data.toList)) (fun _ m _ => (intOf m).natAbs)
  case atStart => exact ⟨.empty, n, rfl, rfl, HN, Lib.hid (Below.refl _ _), Lib.hid (by simp)⟩
  case round =>
    obtain ⟨l, x, rfl, rfl, HX, HW, HL⟩ := hrel
    have x1 := HX.out.1
    have x2 := HX.out.2
    have hls : l.size ≤ 21 := by
      have h := HL.out
      have h2 := dec_len HN.out
      rw [h, List.length_append, size_len] at h2
      omega
    by_cases h0 : x < 0
    · obtain ⟨M, rfl⟩ : ∃ M : Nat, x = -(M : Int) := ⟨x.natAbs, by omega⟩
      have e1 : (-(M : Int)).tmod 10 = -((M % 10 : Nat) : Int) := by rw [Int.neg_tmod]; rfl
      have e2 : (-(M : Int)).tdiv 10 = -((M / 10 : Nat) : Int) := by rw [Int.neg_tdiv]; rfl
      have hd : M % 10 < 10 := Nat.mod_lt _ (by decide)
      have hMd : M = 10 * (M / 10) + M % 10 := by omega
      have hna : (-(M : Int)).natAbs = M := by omega
      generalize M % 10 = d at *
      generalize M / 10 = q at *
      have hneg : 0 < M := by omega
      clear h0
      by_cases hdz : 0 < d
      · have hcv := one_byte wr (48 + (d : Int)) d hd (by omega)
        by_cases hq : q = 0
        · have HS := Lib.hid (show Lib.decDigits n.natAbs = [UInt8.ofNat (48 + d)] ++ l.data.toList by
            rw [HL.out, hna, dec_last (u := M) (by omega), show M = d by omega])
          subst hq
          have HMd := Lib.hid hMd
          clear hMd
          have HD := Lib.hid (show Lib.decDigits n.natAbs = (⟨#[UInt8.ofNat (48 + d)]⟩ ++ l : ByteArray).data.toList by rw [data_app]; exact HS.out)
          have hcs : (⟨#[UInt8.ofNat (48 + d)]⟩ : ByteArray).size ≤ 1 := Nat.le_refl _
          generalize (⟨#[UInt8.ofNat (48 + d)]⟩ : ByteArray) = c at *
          by_cases hn0 : n < 0
          · go_wp2_with fail
            go_ret
            exact ⟨ret_str (txt_neg hn0 HD.out).symm, HW.out.alloc HW.out.size _⟩
          · go_wp2_with fail
            go_ret
            exact ⟨ret_str (txt_pos (by omega) HD.out).symm, HW.out.alloc HW.out.size _⟩
        · have HS := Lib.hid (show Lib.decDigits n.natAbs = Lib.decDigits q ++ ([UInt8.ofNat (48 + d)] ++ l.data.toList) by
            rw [HL.out, hna, dec_more (u := M) (by omega), show M / 10 = q by omega, show M % 10 = d by omega, List.append_assoc])
          have hqn := HQ.out q (by omega)
          have hqn2 : (-(q : Int) == 0) = false := by rw [beq_eq_false_iff_ne]; omega
          have hqb : (q : Int) ≤ 922337203685477580 := by omega
          have hqp : 0 < q := by omega
          have HQZ := Lib.hid hq
          clear hq
          have HMd := Lib.hid hMd
          clear hMd
          have HD := Lib.hid (show Lib.decDigits n.natAbs = Lib.decDigits q ++ (⟨#[UInt8.ofNat (48 + d)]⟩ ++ l : ByteArray).data.toList by rw [data_app]; exact HS.out)
          have hcs : (⟨#[UInt8.ofNat (48 + d)]⟩ : ByteArray).size ≤ 1 := Nat.le_refl _
          generalize (⟨#[UInt8.ofNat (48 + d)]⟩ : ByteArray) = c at *
          go_wp2_with fail
          exact ⟨⟨_, _, rfl, rfl, Lib.hid (by unfold inR; have := HMd.out; omega), Lib.hid (HW.out.alloc HW.out.size _), Lib.hid (by rw [show Int.natAbs (-(q : Int)) = q by omega]; exact HD.out)⟩, by have := HMd.out; simp [intOf]; omega⟩
      · have hd0 : (48 : Int) + -(d : Int) = 48 + (d : Int) := by omega
        clear hd0
        have hcv := one_byte wr (48 + -(d : Int)) d hd (by omega)
        by_cases hq : q = 0
        · have HS := Lib.hid (show Lib.decDigits n.natAbs = [UInt8.ofNat (48 + d)] ++ l.data.toList by
            rw [HL.out, hna, dec_last (u := M) (by omega), show M = d by omega])
          subst hq
          have HMd := Lib.hid hMd
          clear hMd
          have HD := Lib.hid (show Lib.decDigits n.natAbs = (⟨#[UInt8.ofNat (48 + d)]⟩ ++ l : ByteArray).data.toList by rw [data_app]; exact HS.out)
          have hcs : (⟨#[UInt8.ofNat (48 + d)]⟩ : ByteArray).size ≤ 1 := Nat.le_refl _
          generalize (⟨#[UInt8.ofNat (48 + d)]⟩ : ByteArray) = c at *
          by_cases hn0 : n < 0
          · go_wp2_with fail
            go_ret
            exact ⟨ret_str (txt_neg hn0 HD.out).symm, HW.out.alloc HW.out.size _⟩
          · go_wp2_with fail
            go_ret
            exact ⟨ret_str (txt_pos (by omega) HD.out).symm, HW.out.alloc HW.out.size _⟩
        · have HS := Lib.hid (show Lib.decDigits n.natAbs = Lib.decDigits q ++ ([UInt8.ofNat (48 + d)] ++ l.data.toList) by
            rw [HL.out, hna, dec_more (u := M) (by omega), show M / 10 = q by omega, show M % 10 = d by omega, List.append_assoc])
          have hqn := HQ.out q (by omega)
          have hqn2 : (-(q : Int) == 0) = false := by rw [beq_eq_false_iff_ne]; omega
          have hqb : (q : Int) ≤ 922337203685477580 := by omega
          have hqp : 0 < q := by omega
          have HQZ := Lib.hid hq
          clear hq
          have HMd := Lib.hid hMd
          clear hMd
          have HD := Lib.hid (show Lib.decDigits n.natAbs = Lib.decDigits q ++ (⟨#[UInt8.ofNat (48 + d)]⟩ ++ l : ByteArray).data.toList by rw [data_app]; exact HS.out)
          have hcs : (⟨#[UInt8.ofNat (48 + d)]⟩ : ByteArray).size ≤ 1 := Nat.le_refl _
          generalize (⟨#[UInt8.ofNat (48 + d)]⟩ : ByteArray) = c at *
          go_wp2_with fail
          exact ⟨⟨_, _, rfl, rfl, Lib.hid (by unfold inR; have := HMd.out; omega), Lib.hid (HW.out.alloc HW.out.size _), Lib.hid (by rw [show Int.natAbs (-(q : Int)) = q by omega]; exact HD.out)⟩, by have := HMd.out; simp [intOf]; omega⟩
    · obtain ⟨M, rfl⟩ : ∃ M : Nat, x = (M : Int) := ⟨x.natAbs, by omega⟩
      have e1 : ((M : Int)).tmod 10 = ((M % 10 : Nat) : Int) := rfl
      have e2 : ((M : Int)).tdiv 10 = ((M / 10 : Nat) : Int) := rfl
      have hd : M % 10 < 10 := Nat.mod_lt _ (by decide)
      have hMd : M = 10 * (M / 10) + M % 10 := by omega
      have hna : ((M : Int)).natAbs = M := by omega
      generalize M % 10 = d at *
      generalize M / 10 = q at *
      clear h0
      have hcv := one_byte wr (48 + (d : Int)) d hd (by omega)
      by_cases hq : q = 0
      · have HS := Lib.hid (show Lib.decDigits n.natAbs = [UInt8.ofNat (48 + d)] ++ l.data.toList by
          rw [HL.out, hna, dec_last (u := M) (by omega), show M = d by omega])
        subst hq
        have HMd := Lib.hid hMd
        clear hMd
        have HD := Lib.hid (show Lib.decDigits n.natAbs = (⟨#[UInt8.ofNat (48 + d)]⟩ ++ l : ByteArray).data.toList by rw [data_app]; exact HS.out)
        have hcs : (⟨#[UInt8.ofNat (48 + d)]⟩ : ByteArray).size ≤ 1 := Nat.le_refl _
        generalize (⟨#[UInt8.ofNat (48 + d)]⟩ : ByteArray) = c at *
        by_cases hn0 : n < 0
        · go_wp2_with fail
          go_ret
          exact ⟨ret_str (txt_neg hn0 HD.out).symm, HW.out.alloc HW.out.size _⟩
        · go_wp2_with fail
          go_ret
          exact ⟨ret_str (txt_pos (by omega) HD.out).symm, HW.out.alloc HW.out.size _⟩
      · have HS := Lib.hid (show Lib.decDigits n.natAbs = Lib.decDigits q ++ ([UInt8.ofNat (48 + d)] ++ l.data.toList) by
          rw [HL.out, hna, dec_more (u := M) (by omega), show M / 10 = q by omega, show M % 10 = d by omega, List.append_assoc])
        have hqn := HQ.out q (by omega)
        have hqn2 : (-(q : Int) == 0) = false := by rw [beq_eq_false_iff_ne]; omega
        have hqb : (q : Int) ≤ 922337203685477580 := by omega
        have hqp : 0 < q := by omega
        have HQZ := Lib.hid hq
        clear hq
        have HMd := Lib.hid hMd
        clear hMd
        have HD := Lib.hid (show Lib.decDigits n.natAbs = Lib.decDigits q ++ (⟨#[UInt8.ofNat (48 + d)]⟩ ++ l : ByteArray).data.toList by rw [data_app]; exact HS.out)
        have hcs : (⟨#[UInt8.ofNat (48 + d)]⟩ : ByteArray).size ≤ 1 := Nat.le_refl _
        generalize (⟨#[UInt8.ofNat (48 + d)]⟩ : ByteArray) = c at *
        go_wp2_with fail
        exact ⟨⟨_, _, rfl, rfl, Lib.hid (by unfold inR; have := HMd.out; omega), Lib.hid (HW.out.alloc HW.out.size _), Lib.hid (by rw [show Int.natAbs ((q : Int)) = q by omega]; exact HD.out)⟩, by have := HMd.out; simp [intOf]; omega⟩
end Go.Proofs.YtcnbaioecoaopaaDoor
