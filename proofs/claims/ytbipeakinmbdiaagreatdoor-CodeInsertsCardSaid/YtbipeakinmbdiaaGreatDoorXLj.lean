/-
  Law: a register that a block does not use.
-/
import Derived.Test.YtbipeakinmbdiaaGreatDoorKv
import Derived.Test.YtbipeakinmbdiaaGreatDoorXh
import Derived.Test.YtbipeakinmbdiaaGreatDoorXLi
import Derived.Deep.CutBlock
namespace Go.Proofs.YtbipeakinmbdiaaGreatDoor
open Go.RowKit

/-- what may not be inserted -/
def lits (f : Int) : List In := [⟨12, f, f, 0, ⟨#[]⟩, 0⟩, ⟨2, f, f, 0, ⟨#[]⟩, 0⟩, ⟨24, f, 0, 0, ⟨#[]⟩, 0⟩, ⟨10, 0, 0, 1, ⟨#[]⟩, 0⟩, ⟨6, f, 0, 0, ⟨#[]⟩, 0⟩, ⟨8, 0, 0, 5, ⟨#[]⟩, 0⟩, ⟨9, 0, 0, 0, ⟨#[97]⟩, 0⟩]
theorem lits_read {f : Int} (hf : 1 ≤ f ∧ f ≤ 4096) : ∀ x ∈ lits f, f ∈ rdOf x ∨ isArg x.op = true := by
  have hr : rOk f = true := by simp [rOk]; omega
  have ha : aOk f = true := by simp [aOk]; omega
  intro x hx
  simp only [lits, List.mem_cons, List.not_mem_nil, or_false] at hx
  rcases hx with rfl | rfl | rfl | rfl | rfl | rfl | rfl
  · left
    rw [rd12, if_pos (by rw [fo12]; simp [hr, ha, sameI])]
    simp
  · left
    rw [rd2, if_pos (by rw [fo2]; simp [hr, ha, sameI])]
    simp
  · left
    rw [rd24, if_pos (by rw [fo24]; simp [hr, sameI])]
    simp
  · right; rfl
  · right; rfl
  · right; rfl
  · right; rfl
theorem alloc_two {b : Bk} (h : vaP b = true) {x : In} (hx : b.code[0]? = some x) (h16 : x.op = 16) : 2 ≤ b.code.length := by
  obtain ⟨_, hl, _, hu⟩ := va_parts h
  by_cases h1 : b.code.length = 1
  · obtain ⟨c, c', y, hy, _, _, hs, _⟩ := upto_at (k := 0) (by omega) hu
    rw [hx] at hy
    injection hy with hy
    subst hy
    rw [h1] at hs
    unfold stepP at hs
    rw [if_pos (.inr (by rw [h16]; decide))] at hs
    cases hs
  · omega
theorem new_lits (w : World) (f : Int) : InsAt (w.alloc (.cells (aCs (lits f)).toArray 34)) (w.heap.size + 1) (some ⟨w.heap.size, 0, none⟩) 7 (lits f) := by
  refine ⟨⟨rfl, by omega⟩, fun _ => ⟨w.heap.size, 0, rfl, by omega, fun i y hy => ?_⟩⟩
  have h := Blk.new w 34 (aCs (lits f)).toArray
  match i, hy with
  | 0, hy => injection hy with hy; subst hy; exact ⟨Blk.cell h 0, Blk.cell h 1, Blk.cell h 2, Blk.cell h 3, Blk.cell h 4, Blk.cell h 5⟩
  | 1, hy => injection hy with hy; subst hy; exact ⟨Blk.cell h 6, Blk.cell h 7, Blk.cell h 8, Blk.cell h 9, Blk.cell h 10, Blk.cell h 11⟩
  | 2, hy => injection hy with hy; subst hy; exact ⟨Blk.cell h 12, Blk.cell h 13, Blk.cell h 14, Blk.cell h 15, Blk.cell h 16, Blk.cell h 17⟩
  | 3, hy => injection hy with hy; subst hy; exact ⟨Blk.cell h 18, Blk.cell h 19, Blk.cell h 20, Blk.cell h 21, Blk.cell h 22, Blk.cell h 23⟩
  | 4, hy => injection hy with hy; subst hy; exact ⟨Blk.cell h 24, Blk.cell h 25, Blk.cell h 26, Blk.cell h 27, Blk.cell h 28, Blk.cell h 29⟩
  | 5, hy => injection hy with hy; subst hy; exact ⟨Blk.cell h 30, Blk.cell h 31, Blk.cell h 32, Blk.cell h 33, Blk.cell h 34, Blk.cell h 35⟩
  | 6, hy => injection hy with hy; subst hy; exact ⟨Blk.cell h 36, Blk.cell h 37, Blk.cell h 38, Blk.cell h 39, Blk.cell h 40, Blk.cell h 41⟩
theorem insert_valid (b : Bk) (bk off : Nat) (c k : Nat) (x : In) (w : World) (ha : InsAt w w.heap.size (some ⟨bk, off, none⟩) b.code.length b.code) (hb : bk < w.heap.size) (hc : b.code.length ≤ c) (hz : b.code.length ≤ 131072) (hk : k < b.code.length) {t : Bool} (ht : vaP { b with code := insL b.code k x } = t) :
    Calls Tryz.prog 29 #[b.v (some ⟨bk, off, none⟩) c, .int .i64 (k : Int), x.v] w fun e w' => ∃ V, e = .returned V ∧ Below w.heap.size w w' ∧ Hid (Calls Tryz.prog 15 #[V] w' fun e w'' => e = .returned (.bool t) ∧ Below w'.heap.size w' w'') := by
  refine (insert_any b bk off c k x w ha hb hc hz hk).mono ?_
  rintro e w' ⟨A, c', rfl, ho, hb⟩
  refine ⟨_, rfl, hb, Lib.hid ?_⟩
  have h := valid_any { b with code := insL b.code k x } A c' w' (own_ins' ho (by rw [insL_len]; omega))
  rw [ht] at h
  exact h
set_option maxRecDepth 100000 in
set_option maxHeartbeats 8000000 in
theorem law_inserts (b : Bk) (A : Option Addr) (c : Nat) (at0 : Int) (w : World) (hE : Env w) (ha : InsAt w w.heap.size A b.code.length b.code) (hc : CapOk A b.code.length c) (hat : 0 ≤ at0 ∧ at0 < 65536) :
    Calls Tryz.prog 11 #[b.v A c, .int .u16 at0] w fun e w' => e = .returned (.bool true) ∧ Below w.heap.size w w' := by
  obtain ⟨n, hn⟩ : ∃ n, Hid (n = b.code.length) := ⟨_, rfl⟩
  obtain ⟨w1, hw1⟩ : ∃ X, Hid (X = w.alloc (.cells (bkC b A n c) 28)) := ⟨_, rfl⟩
  obtain ⟨p, hp⟩ : ∃ p, Hid (p = w.heap.size) := ⟨_, rfl⟩
  have HP := Lib.hid (show Blk w1 p 28 (bkC b A n c) by rw [hw1.out, hp.out]; exact Blk.new _ _ _)
  have HK := Lib.hid (show Below w.heap.size w w1 by rw [hw1.out]; exact bAlloc _ _)
  have HE := Lib.hid (hE.next HK.out)
  have HA := Lib.hid (ha.next HK.out)
  have HC := Lib.hid hc
  have HAT := Lib.hid hat
  have hcv := valid_any b A c w1 HA.out
  unfold Bk.v at hcv ⊢
  rw [← hn.out] at hcv ⊢
  have HCV := Lib.hid hcv
  clear hE ha hc hat hcv
  go_enter Tryz.func11, Tryz.ntmps11
  go_upto_region 1 with fail
  rw [← hw1.out, ← hp.out]
  clear hw1 hp
  have t0 := HP.out.cell 0
  have t1 := HP.out.cell 1
  have t2 := HP.out.cell 2
  have t3 := HP.out.cell 3
  have t4 := HP.out.cell 4
  have t5 := HP.out.cell 5
  have t6 := HP.out.cell 6
  have t7 := HP.out.cell 7
  have t8 := HP.out.cell 8
  have tl := HP.out.lt
  simp at t0 t1 t2 t3 t4 t5 t6 t7 t8
  obtain ⟨tn, htn⟩ : ∃ t, decide ((131072 : Int) ≤ (n : Int)) = t := ⟨_, rfl⟩
  obtain ⟨tv, htv⟩ : ∃ t, Hid (t = vaP b) := ⟨_, rfl⟩
  rw [← htv.out] at HCV
  go_wp2_with fail
  refine HCV.out.mono ?_
  rintro e w2 ⟨rfl, hb2⟩
  have HK2 := Lib.hid (bNext HK.out hb2)
  have HP2 := Lib.hid (HP.out.next hb2)
  have HA2 := Lib.hid (HA.out.next hb2)
  have HE2 := Lib.hid (HE.out.next hb2)
  clear hb2 t0 t1 t2 t3 t4 t5 t6 t7 t8 tl HCV
  have p8 := HP2.out.cell 8
  have pl := HP2.out.lt
  simp at p8
  cases tv
  · go_wp2_with fail
    refine (awake_any w2 HE2.out).mono ?_
    rintro e wz ⟨rfl, hbz⟩
    have HBZ := Lib.hid (bNext HK2.out hbz)
    clear hbz
    go_wp2_with fail
    go_ret
    exact ⟨rfl, HBZ.out⟩
  · cases tn
    · have HV := Lib.hid htv.out.symm
      clear htv
      have hn1 : 1 ≤ n := by have := (va_parts HV.out).2.1; have := hn.out; omega
      have hn2 : n < 131072 := by have := of_decide_eq_false htn; omega
      obtain ⟨m, hm⟩ : ∃ m : Nat, Hid ((m : Int) = at0) := ⟨at0.toNat, Lib.hid (by have := HAT.out; omega)⟩
      have HM := Lib.hid (show m ≤ 65535 by have := HAT.out; have := hm.out; omega)
      rw [← hm.out]
      have hcv : IntKind.wrap .i64 (m : Int) = (m : Int) := wrapI (by have := HM.out; omega)
      have htm : (m : Int).tmod (n : Int) = ((m % n : Nat) : Int) := by rw [Int.tmod_eq_emod_of_nonneg (by omega)]; omega
      have hkn : m % n < n := Nat.mod_lt _ hn1
      obtain ⟨k, hk⟩ : ∃ k, Hid (k = m % n) := ⟨_, rfl⟩
      rw [← hk.out] at htm hkn
      go_upto_region 4 with fail
      clear htn hcv htm
      obtain ⟨bk, off, x0, hA, hbb, hx0, hcc⟩ := HA2.out.at (i := 0) (by have := hn.out; omega)
      subst hA
      obtain ⟨c0, c1, c2, c3, c4, c5⟩ := hcc
      rw [Nat.zero_mul, Nat.add_zero] at c0
      have HX0 := Lib.hid hx0
      have HBK := Lib.hid hbb
      clear hx0 hbb c1 c2 c3 c4 c5
      obtain ⟨tk, htk⟩ : ∃ t, ((k : Int) == 0) = t := ⟨_, rfl⟩
      obtain ⟨tw, htw⟩ : ∃ t, (x0.op == 16) = t := ⟨_, rfl⟩
      go_cut [34] from 25 to 34 (fun s34 wx => s34 = .bool (tk && tw) ∧ w2 = wx)
      case first =>
        cases tk
        · go_wp2_with fail
          go_meet
          exact ⟨rfl, rfl⟩
        · go_wp2_with fail
          go_meet
          exact ⟨rfl, rfl⟩
      obtain ⟨rfl, rfl⟩ := hcut
      obtain ⟨tb, htb⟩ : ∃ t, Hid (t = (tk && tw)) := ⟨_, rfl⟩
      rw [← htb.out]
      obtain ⟨l, hl⟩ : ∃ l : Nat, Hid (l = if tb then 1 else k) := ⟨_, rfl⟩
      have HL := Lib.hid (show l < n ∧ (l = 0 → x0.op ≠ 16) by
        have h1 := hl.out
        have h2 := htb.out
        cases tb
        · rw [if_neg (by decide)] at h1
          refine ⟨by omega, fun h0 h16 => ?_⟩
          rw [show tk = true by rw [← htk]; exact beq_iff_eq.2 (by omega), show tw = true by rw [← htw]; exact beq_iff_eq.2 h16] at h2
          cases h2
        · rw [if_pos rfl] at h1
          have h3 : tw = true := (Bool.and_eq_true_iff.1 h2.symm).2
          have h4 := alloc_two HV.out HX0.out (by rw [h3] at htw; simpa using htw)
          have := hn.out
          exact ⟨by omega, fun h0 => by omega⟩)
      clear htk htw c0
      have hlt : tb = false → k = l := fun e => by rw [hl.out, e]; rfl
      have HLT := Lib.hid hlt
      have HL1 := Lib.hid (show tb = true → l = 1 from fun e => by rw [hl.out, e]; rfl)
      clear hlt hl htb
      go_upto_if 34 with fail
      go_cut [5] from 25 to 34 (fun s5 wx => s5 = .int .i64 (l : Int) ∧ w2 = wx)
      case first =>
        cases tb
        · go_wp2_with fail
          go_meet
          exact ⟨by rw [HLT.out (by trivial)], rfl⟩
        · go_wp2_with fail
          go_meet
          exact ⟨by rw [HL1.out (by trivial)]; rfl, rfl⟩
      obtain ⟨rfl, rfl⟩ := hcut
      clear HLT HL1 p8 pl
      obtain ⟨P, hP⟩ : ∃ A', Hid (A' = (some ⟨bk, off, none⟩ : Option Addr)) := ⟨_, rfl⟩
      rw [← hP.out] at HP2 HA2 HC
      clear HP HA
      go_upto_block 0 with fail
      go_cut [6] from 6 to 43 (fun s6 wx => ∃ j : Nat, s6 = .int .i64 (j : Int) ∧ j ≤ 4096 ∧ Hid (j = 0 ∨ usesP b (j : Int) = false) ∧ Hid (Below w2.heap.size w2 wx))
      case first =>
        go_wp2_with fail
        go_loopw [6] (fun i wr => ∃ j : Nat, i = .int .i64 (j : Int) ∧ j ≤ 4096 ∧ Hid (Below w2.heap.size w2 wr)) (fun i _ => (intOf i).toNat)
        case atStart => exact ⟨4096, rfl, by omega, Lib.hid (Below.refl _ _)⟩
        case round =>
          obtain ⟨j, rfl, hj, HB⟩ := hrel
          obtain ⟨tj, htj⟩ : ∃ t, decide ((0 : Int) < (j : Int)) = t := ⟨_, rfl⟩
          cases tj
          · have h0 : j = 0 := by have := of_decide_eq_false htj; omega
            go_wp2_with fail
            go_meet
            exact ⟨j, rfl, by omega, Lib.hid (.inl h0), HB⟩
          · have h0 : 1 ≤ j := by have := of_decide_eq_true htj; omega
            have HPr := Lib.hid (HP2.out.next HB.out)
            obtain ⟨tu, htu⟩ : ∃ t, Hid (t = usesP b (j : Int)) := ⟨_, rfl⟩
            have hcu := uses_any b P c (j : Int) wr (HA2.out.next HB.out)
            unfold Bk.v at hcu
            rw [← hn.out, ← htu.out] at hcu
            have HCU := Lib.hid hcu
            clear hcu
            have t0 := HPr.out.cell 0
            have t1 := HPr.out.cell 1
            have t2 := HPr.out.cell 2
            have t3 := HPr.out.cell 3
            have t4 := HPr.out.cell 4
            have t5 := HPr.out.cell 5
            have t6 := HPr.out.cell 6
            have t7 := HPr.out.cell 7
            have t8 := HPr.out.cell 8
            have tl := HPr.out.lt
            simp at t0 t1 t2 t3 t4 t5 t6 t7 t8
            go_wp2_with fail
            refine HCU.out.mono ?_
            rintro e w3 ⟨rfl, hb3⟩
            have HB3 := Lib.hid (bNext HB.out hb3)
            clear hb3 t0 t1 t2 t3 t4 t5 t6 t7 t8 tl HCU
            cases tu
            · go_wp2_with fail
              go_meet
              exact ⟨j, rfl, hj, Lib.hid (.inr htu.out.symm), HB3⟩
            · go_wp2_with fail
              exact ⟨⟨j - 1, by go_num, by omega, HB3⟩, by simp only [intOf]; omega⟩
      obtain ⟨j, rfl, hj, HU, HB⟩ := hcut
      have HK3 := Lib.hid (bNext HK2.out HB.out)
      have HP3 := Lib.hid (HP2.out.next HB.out)
      have HA3 := Lib.hid (HA2.out.next HB.out)
      have HE3 := Lib.hid (HE2.out.next HB.out)
      have HBK3 := Lib.hid (show bk < wc.heap.size by have := HBK.out; have := HB.out.size; omega)
      have hbw := HB
      clear HB
      obtain ⟨x, hx⟩ : ∃ x, Hid (b.code[l]? = some x) := ⟨b.code[l]'(by rw [← hn.out]; exact HL.out.1), Lib.hid (List.getElem?_eq_getElem _)⟩
      obtain ⟨tz, htz⟩ : ∃ t, ((j : Int) == 0) = t := ⟨_, rfl⟩
      obtain ⟨ta, hta⟩ : ∃ t, Hid (t = isArg x.op) := ⟨_, rfl⟩
      have hce := expected_any b P c l x wc HA3.out hx.out
      unfold Bk.v at hce
      rw [← hn.out, ← hta.out] at hce
      have HCE := Lib.hid hce
      clear hce
      have t0 := HP3.out.cell 0
      have t1 := HP3.out.cell 1
      have t2 := HP3.out.cell 2
      have t3 := HP3.out.cell 3
      have t4 := HP3.out.cell 4
      have t5 := HP3.out.cell 5
      have t6 := HP3.out.cell 6
      have t7 := HP3.out.cell 7
      have t8 := HP3.out.cell 8
      have tl := HP3.out.lt
      simp at t0 t1 t2 t3 t4 t5 t6 t7 t8
      cases tz
      · have hj1 : 1 ≤ j := by have := ne_of_beq_false htz; omega
        have HUS := Lib.hid (show usesP b (j : Int) = false by
          rcases HU.out with h | h
          · omega
          · exact h)
        clear HU
        go_wp2_with fail
        refine HCE.out.mono ?_
        rintro e w4 ⟨rfl, hb4⟩
        have HK4 := Lib.hid (bNext HK3.out hb4)
        have HP4 := Lib.hid (HP3.out.next hb4)
        have HA4 := Lib.hid (HA3.out.next hb4)
        have HE4 := Lib.hid (HE3.out.next hb4)
        have HBK4 := Lib.hid (show bk < w4.heap.size by have := HBK3.out; have := hb4.size; omega)
        clear hb4 t0 t1 t2 t3 t4 t5 t6 t7 t8 tl HCE htz
        cases ta
        · have HLIT := Lib.hid (show ∀ i ∈ lits (j : Int), vaP { b with code := insL b.code l i } = false from fun i hi => va_ins_reads HV.out hx.out hta.out.symm (by omega) HUS.out (lits_read ⟨by omega, by omega⟩ i hi))
          have HMARK := Lib.hid (va_ins_mark HV.out (by rw [← hn.out]; exact hn2) hx.out hta.out.symm (f := (j : Int)) ⟨by omega, by omega⟩ HUS.out (fun h0 => by
            have h1 := hx.out
            rw [h0, HX0.out] at h1
            injection h1 with h1
            rw [← h1]
            exact HL.out.2 h0))
          clear hx hta HUS HV HX0
          go_upto_block 2 with fail
          obtain ⟨w5, hw5⟩ : ∃ X, Hid (X = w4.alloc (.cells #[.int .i64 12, .int .i64 (j : Int), .int .i64 (j : Int), .int .i64 0, .string ⟨#[]⟩, .int .i64 0, .int .i64 2, .int .i64 (j : Int), .int .i64 (j : Int), .int .i64 0, .string ⟨#[]⟩, .int .i64 0, .int .i64 24, .int .i64 (j : Int), .int .i64 0, .int .i64 0, .string ⟨#[]⟩, .int .i64 0, .int .i64 10, .int .i64 0, .int .i64 0, .int .i64 1, .string ⟨#[]⟩, .int .i64 0, .int .i64 6, .int .i64 (j : Int), .int .i64 0, .int .i64 0, .string ⟨#[]⟩, .int .i64 0, .int .i64 8, .int .i64 0, .int .i64 0, .int .i64 5, .string ⟨#[]⟩, .int .i64 0, .int .i64 9, .int .i64 0, .int .i64 0, .int .i64 0, .string ⟨#[97]⟩, .int .i64 0] 34)) := ⟨_, rfl⟩
          obtain ⟨z, hz⟩ : ∃ X, Hid (X = w4.heap.size) := ⟨_, rfl⟩
          rw [show w4.alloc (.cells #[.int .i64 12, .int .i64 (j : Int), .int .i64 (j : Int), .int .i64 0, .string ⟨#[]⟩, .int .i64 0, .int .i64 2, .int .i64 (j : Int), .int .i64 (j : Int), .int .i64 0, .string ⟨#[]⟩, .int .i64 0, .int .i64 24, .int .i64 (j : Int), .int .i64 0, .int .i64 0, .string ⟨#[]⟩, .int .i64 0, .int .i64 10, .int .i64 0, .int .i64 0, .int .i64 1, .string ⟨#[]⟩, .int .i64 0, .int .i64 6, .int .i64 (j : Int), .int .i64 0, .int .i64 0, .string ⟨#[]⟩, .int .i64 0, .int .i64 8, .int .i64 0, .int .i64 0, .int .i64 5, .string ⟨#[]⟩, .int .i64 0, .int .i64 9, .int .i64 0, .int .i64 0, .int .i64 0, .string ⟨#[97]⟩, .int .i64 0] 34) = w5 from hw5.out.symm, ← hz.out]
          have HS5 := Lib.hid (show InsAt w5 w5.heap.size (some ⟨z, 0, none⟩) 7 (lits (j : Int)) by
            rw [hw5.out, World.size_alloc, hz.out]
            exact new_lits w4 (j : Int))
          have HB5 := Lib.hid (show Below w4.heap.size w4 w5 by rw [hw5.out]; exact bAlloc _ _)
          have HP5 := Lib.hid (HP4.out.next HB5.out)
          have HA5 := Lib.hid (HA4.out.next HB5.out)
          have HE5 := Lib.hid (HE4.out.next HB5.out)
          have HK5 := Lib.hid (bNext HK4.out HB5.out)
          have HBK5 := Lib.hid (show bk < w5.heap.size by have := HBK4.out; have := HB5.out.size; omega)
          have HN := Lib.hid (show b.code.length ≤ c ∧ b.code.length ≤ 131072 ∧ l < b.code.length by
            have h1 := HC.out.1
            have h2 := HL.out.1
            have h3 := hn.out
            exact ⟨h1, by omega, by omega⟩)
          clear hw5 hz
          go_wp2_with fail
          go_loopw [67] (fun i wr => ∃ q : Nat, i = .int .i64 (q : Int) ∧ q ≤ 7 ∧ Hid (Below w5.heap.size w5 wr)) (fun i _ => 7 - (intOf i).toNat)
          case atStart => exact ⟨0, rfl, by omega, Lib.hid (Below.refl _ _)⟩
          case round =>
            obtain ⟨q, rfl, hq, HBr⟩ := hrel
            by_cases hlt : q < 7
            · have hlj : decide ((q : Int) < 7) = true := decide_eq_true (by omega)
              obtain ⟨z', o', y, e9, -, hy, hcc⟩ := (HS5.out.next HBr.out).at hlt
              injection e9 with e9
              injection e9 with e1 e2
              subst e1 e2
              obtain ⟨c0, c1, c2, c3, c4, c5⟩ := hcc
              simp only [Nat.zero_add] at c0 c1 c2 c3 c4 c5
              have HY := Lib.hid (HLIT.out y (List.mem_of_getElem? hy))
              clear hy
              go_upto_region 14 with fail
              obtain ⟨w6, hw6⟩ : ∃ X, Hid (X = wr.alloc (.cells #[.int .i64 y.op, .int .i64 y.r, .int .i64 y.a, .int .i64 y.n, .string y.nm, .int .i64 y.ar] 34)) := ⟨_, rfl⟩
              obtain ⟨g, hg⟩ : ∃ X, Hid (X = wr.heap.size) := ⟨_, rfl⟩
              rw [← hw6.out, ← hg.out]
              have HX := Lib.hid (show BoxI w6 g y by rw [hw6.out, hg.out]; exact BoxI.new _ _)
              have HB6 := Lib.hid (show Below w5.heap.size w5 w6 by rw [hw6.out]; exact HBr.out.alloc HBr.out.size _)
              clear hw6 hg c0 c1 c2 c3 c4 c5 hlj HBr
              have HP6 := Lib.hid (HP5.out.next HB6.out)
              have HA6 := Lib.hid (HA5.out.next HB6.out)
              have hci := insert_valid b bk off c l y w6 (by have h := HA6.out; rw [hP.out] at h; exact h) (by have := HBK5.out; have := HB6.out.size; omega) HN.out.1 HN.out.2.1 HN.out.2.2 HY.out
              unfold Bk.v at hci
              rw [← hn.out, ← hP.out] at hci
              have HCI := Lib.hid hci
              clear hci
              obtain ⟨x0, x1, x2, x3, x4, x5⟩ := BoxI.cells HX.out
              have t0 := HP6.out.cell 0
              have t1 := HP6.out.cell 1
              have t2 := HP6.out.cell 2
              have t3 := HP6.out.cell 3
              have t4 := HP6.out.cell 4
              have t5 := HP6.out.cell 5
              have t6 := HP6.out.cell 6
              have t7 := HP6.out.cell 7
              have t8 := HP6.out.cell 8
              have tl := HP6.out.lt
              simp at t0 t1 t2 t3 t4 t5 t6 t7 t8
              go_wp2_with fail
              refine HCI.out.mono ?_
              rintro e w7 ⟨V, rfl, hb7, hv⟩
              have HB7 := Lib.hid (bNext HB6.out hb7)
              clear t0 t1 t2 t3 t4 t5 t6 t7 t8 tl x0 x1 x2 x3 x4 x5 HCI hb7
              go_wp2_with fail
              refine hv.out.mono ?_
              rintro e w8 ⟨rfl, hb8⟩
              have HB8 := Lib.hid (bNext HB7.out hb8)
              clear hb8 hv
              go_wp2_with fail
              exact ⟨⟨q + 1, by go_num, hlt, HB8⟩, by simp only [intOf]; omega⟩
            · have hlj : decide ((q : Int) < 7) = false := decide_eq_false (by omega)
              have HPr := Lib.hid (HP5.out.next HBr.out)
              have HAr := Lib.hid (HA5.out.next HBr.out)
              have HEr := Lib.hid (HE5.out.next HBr.out)
              have hci := insert_valid b bk off c l ⟨23, (j : Int), 0, 0, ⟨#[]⟩, 0⟩ wr (by have h := HAr.out; rw [hP.out] at h; exact h) (by have := HBK5.out; have := HBr.out.size; omega) HN.out.1 HN.out.2.1 HN.out.2.2 HMARK.out
              unfold Bk.v at hci
              rw [← hn.out, ← hP.out] at hci
              have HCI := Lib.hid hci
              clear hci
              have t0 := HPr.out.cell 0
              have t1 := HPr.out.cell 1
              have t2 := HPr.out.cell 2
              have t3 := HPr.out.cell 3
              have t4 := HPr.out.cell 4
              have t5 := HPr.out.cell 5
              have t6 := HPr.out.cell 6
              have t7 := HPr.out.cell 7
              have t8 := HPr.out.cell 8
              have tl := HPr.out.lt
              simp at t0 t1 t2 t3 t4 t5 t6 t7 t8
              go_wp2_with fail
              refine HCI.out.mono ?_
              rintro e w7 ⟨V, rfl, hb7, hv⟩
              have HB7 := Lib.hid (bNext HBr.out hb7)
              have HE7 := Lib.hid (HEr.out.next hb7)
              clear t0 t1 t2 t3 t4 t5 t6 t7 t8 tl HCI hb7
              go_wp2_with fail
              refine hv.out.mono ?_
              rintro e w8 ⟨rfl, hb8⟩
              have HB8 := Lib.hid (bNext HB7.out hb8)
              have HE8 := Lib.hid (HE7.out.next hb8)
              have HK8 := Lib.hid (bNext HK5.out HB8.out)
              clear hb8 hv
              go_wp2_with fail
              refine (awake_any w8 HE8.out).mono ?_
              rintro e wz ⟨rfl, hbz⟩
              have HBZ := Lib.hid (bNext HK8.out hbz)
              clear hbz
              go_wp2_with fail
              go_ret
              exact ⟨rfl, HBZ.out⟩
        · go_wp2_with fail
          refine (awake_any w4 HE4.out).mono ?_
          rintro e wz ⟨rfl, hbz⟩
          have HBZ := Lib.hid (bNext HK4.out hbz)
          clear hbz
          go_wp2_with fail
          go_ret
          exact ⟨rfl, HBZ.out⟩
      · go_wp2_with fail
        refine (awake_any wc HE3.out).mono ?_
        rintro e wz ⟨rfl, hbz⟩
        have HBZ := Lib.hid (bNext HK3.out hbz)
        clear hbz
        go_wp2_with fail
        go_ret
        exact ⟨rfl, HBZ.out⟩
    · go_wp2_with fail
      refine (awake_any w2 HE2.out).mono ?_
      rintro e wz ⟨rfl, hbz⟩
      have HBZ := Lib.hid (bNext HK2.out hbz)
      clear hbz
      go_wp2_with fail
      go_ret
      exact ⟨rfl, HBZ.out⟩
end Go.Proofs.YtbipeakinmbdiaaGreatDoor
