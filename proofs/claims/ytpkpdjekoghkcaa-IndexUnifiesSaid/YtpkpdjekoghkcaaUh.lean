/-
  Walks: the variables of a term; a term with its variables shifted.
-/
import Derived.Test.YtpkpdjekoghkcaaUg
import Derived.Test.YtpkpdjekoghkcaaUa
import Derived.Test.YtpkpdjekoghkcaaTq
namespace Go.Proofs.Ytpkpdjekoghkcaa
open Go.RowKit

/-- the variables of a valid term are no large numbers -/
theorem varsT_bd (N : Nat) : ∀ (t : Tm) (l : List Int), cnt t < N → okT t = true → (∀ v ∈ l, 0 ≤ v ∧ v ≤ 1099511627776) → ∀ v ∈ varsT t l, 0 ≤ v ∧ v ≤ 1099511627776 := by
  induction N with
  | zero => intro t l h; omega
  | succ N ih =>
    intro t l hN hok hl
    have hgo : ∀ (a : List Tm) (l : List Int), cnt.go a < N → okT.go a = true → (∀ v ∈ l, 0 ≤ v ∧ v ≤ 1099511627776) → ∀ v ∈ varsT.go a l, 0 ≤ v ∧ v ≤ 1099511627776 := fun a => by
      induction a with
      | nil => intro l _ _ h; exact h
      | cons x r ihr =>
        intro l h h2 h3
        simp only [cnt.go] at h
        simp only [okT.go, Bool.and_eq_true] at h2
        exact ihr _ (by omega) h2.2 (ih x l (by omega) h2.1 h3)
    have h2 := cnt_eq t
    rw [varsT_eq]
    refine hgo t.args _ (by omega) (okT_args hok) fun v hv => ?_
    unfold vars1 at hv
    split at hv
    · rename_i hc
      rcases List.mem_append.1 hv with h | h
      · exact hl v h
      · rw [List.mem_singleton] at h
        subst h
        exact okT_n hok hc.1
    · exact hl v hv
theorem valid_ok {t : Tm} (h : validT t = true) : TmOk t := by
  simp only [validT, Bool.and_eq_true, decide_eq_true_eq] at h
  exact ⟨h.2, h.1⟩
/-- a list of variables -/
def VrsAt (w : World) (e : Ending) : Prop := ∃ Al nl cl l, e = .returned (.slice Al nl cl) ∧ IntsAt w w.heap.size Al nl l ∧ nl ≤ 4000 ∧ ∀ v ∈ l, 0 ≤ v ∧ v ≤ 1099511627776
set_option maxHeartbeats 1000000 in
theorem vars27_any (t : Tm) (A : Option Addr) (c : Nat) (w : World) (ha : ArgsAt w (Old w.heap.size) A t.args) :
    Calls Try.prog 27 #[t.v A c] w fun e w' => VrsAt w' e ∧ Below w.heap.size w w' := by
  obtain ⟨W, HW⟩ : ∃ X, Hid (X = w.alloc (.cells #[.int .i64 t.kind, .int .i64 t.n, .string t.name, .slice A t.args.length c] 47)) := ⟨_, rfl⟩
  have hbW : Below w.heap.size w W := by rw [HW.out]; exact bAlloc w _
  obtain ⟨q, hq⟩ : ∃ q, Hid (q = w.heap.size) := ⟨_, rfl⟩
  have hk : Blk W q 47 #[.int .i64 t.kind, .int .i64 t.n, .string t.name, .slice A t.args.length c] := by rw [HW.out, hq.out]; exact Blk.new w _ _
  have HA := Lib.hid (ha.next hbW)
  have HB := Lib.hid hbW
  have HK := Lib.hid hk
  have e0 := hk.cell 0
  have e1 := hk.cell 1
  have e2 := hk.cell 2
  have e3 := hk.cell 3
  have el := hk.lt
  simp at e0 e1 e2 e3
  clear ha hbW hk
  go_enter Try.func27, Try.ntmps27
  go_upto_region 1 with fail
  rw [← HW.out, ← hq.out]
  clear HW
  go_wp2_with fail
  refine (valid03_any t A c W HA.out).mono ?_
  rintro e w1 ⟨rfl, hb1⟩
  have HB1 := Lib.hid (bNext HB.out hb1)
  cases hv : validT t
  · clear hb1
    go_wp2_with fail
    go_ret
    exact ⟨⟨none, 0, 0, [], rfl, .nil _ _ _, by omega, fun v h => by cases h⟩, HB1.out⟩
  · have hok := valid_ok hv
    have hcnt := hok.len
    have HOK := Lib.hid hok
    have HA1 := Lib.hid (HA.out.next hb1)
    have hk1 := HK.out.below hb1 el
    have g0 := hk1.cell 0
    have g1 := hk1.cell 1
    have g2 := hk1.cell 2
    have g3 := hk1.cell 3
    have gl := hk1.lt
    simp at g0 g1 g2 g3
    clear hb1 hv hok hk1 e0 e1 e2 e3 el
    go_wp2_with fail
    refine (vars_any _ t (Nat.lt_succ_self _) A c w1.heap.size 0 (.slice none 0 0) [] w1 (Nat.le_refl _) (by omega) (World.ownsRow_nil _ _ _ _) HA1.out).mono ?_
    rintro e w2 ⟨v2, n2, rfl, ho2, hg2, -⟩
    have hl2 : n2 ≤ 4000 := by have h1 := ho2.1; have h2 := varsT_len _ t [] (Nat.lt_succ_self _); simp at h1 h2; omega
    obtain ⟨A2, c2, rfl, hI2⟩ := own_ints ho2 (by omega)
    have HI := Lib.hid hI2
    have HB2 := Lib.hid (bNext HB1.out (bNone hg2))
    clear ho2 hg2 hI2
    go_wp2_with fail
    go_ret
    exact ⟨⟨A2, n2, c2, _, rfl, HI.out, hl2, varsT_bd _ t [] (Nat.lt_succ_self _) HOK.out.ok (fun v h => by cases h)⟩, HB2.out⟩
/-- a term and the one with shifted variables -/
def RenR (t t' : Tm) : Prop := t'.kind = t.kind ∧ (t.kind ≠ 0 → t'.n = t.n) ∧ t'.name = t.name ∧ t'.args.length = t.args.length
def RenE (t : Tm) (w : World) (e : Ending) : Prop := ∃ (t' : Tm) (A' : Option Addr) (c' : Nat) (er : Int), e = .returned (.tuple #[t'.v A' c', .int .i64 er]) ∧ ArgsAt w (Old w.heap.size) A' t'.args ∧ (er = 0 → validT t = true ∧ RenR t t')
theorem ren_zero {t : Tm} {w : World} {er : Int} (h : er ≠ 0) : RenE t w (.returned (.tuple #[.agg #[.int .i64 0, .int .i64 0, .string { data := #[] }, .slice none 0 0], .int .i64 er])) := ⟨zeroT, none, 0, er, rfl, .nil _, fun e => absurd e h⟩
set_option maxHeartbeats 2000000 in
theorem rename_any (t : Tm) (A : Option Addr) (c : Nat) (sv : Int) (hs0 : 0 ≤ sv) (hs1 : sv ≤ 1099511627776) (w : World) (ha : ArgsAt w (Old w.heap.size) A t.args) :
    Calls Try.prog 28 #[t.v A c, .int .i64 sv] w fun e w' => RenE t w' e ∧ Below w.heap.size w w' := by
  obtain ⟨W, HW⟩ : ∃ X, Hid (X = (w.alloc (.cells #[.int .i64 t.kind, .int .i64 t.n, .string t.name, .slice A t.args.length c] 47)).alloc (.cells #[.int .i64 0, .int .i64 0, .string { data := #[] }, .slice none 0 0] 47)) := ⟨_, rfl⟩
  have hbW : Below w.heap.size w W := by rw [HW.out]; exact (bAlloc w _).alloc (by simp) _
  obtain ⟨q, hq⟩ : ∃ q, Hid (q = w.heap.size) := ⟨_, rfl⟩
  obtain ⟨r, hr⟩ : ∃ q, Hid (q = w.heap.size + 1) := ⟨_, rfl⟩
  have hk : Blk W q 47 #[.int .i64 t.kind, .int .i64 t.n, .string t.name, .slice A t.args.length c] := by rw [HW.out, hq.out]; exact (Blk.new w _ _).alloc _
  have hkr : Blk W r 47 #[.int .i64 0, .int .i64 0, .string { data := #[] }, .slice none 0 0] := by
    rw [HW.out, hr.out]
    have h1 := Blk.new (w.alloc (.cells #[.int .i64 t.kind, .int .i64 t.n, .string t.name, .slice A t.args.length c] 47)) 47 #[.int .i64 0, .int .i64 0, .string { data := #[] }, .slice none 0 0]
    rw [World.size_alloc] at h1
    exact h1
  have hrw : w.heap.size ≤ r := by rw [hr.out]; omega
  have HA := Lib.hid (ha.next hbW)
  have HB := Lib.hid hbW
  have HK := Lib.hid hk
  have HR := Lib.hid hkr
  have e0 := hk.cell 0
  have e1 := hk.cell 1
  have e2 := hk.cell 2
  have e3 := hk.cell 3
  have el := hk.lt
  have rl0 := hkr.lt
  have hd1 : decide (sv < 0) = false := by simp; omega
  have hd2 : decide (sv > 1099511627776) = false := by simp; omega
  have hd3 : decide (1099511627776 < sv) = false := by simp; omega
  simp at e0 e1 e2 e3
  clear ha hbW hk hkr
  go_enter Try.func28, Try.ntmps28
  go_upto_region 1 with fail
  rw [← HW.out, ← hr.out, ← hq.out]
  clear HW
  go_wp2_with fail
  refine (valid03_any t A c W HA.out).mono ?_
  rintro e w1 ⟨rfl, hb1⟩
  have HB1 := Lib.hid (bNext HB.out hb1)
  have HR1 := Lib.hid (HR.out.below hb1 rl0)
  cases hv : validT t
  · clear hb1
    have ra0 := HR1.out.cell 0
    have fra0 := HR1.out.frozen 0
    have ra1 := HR1.out.cell 1
    have fra1 := HR1.out.frozen 1
    have ra2 := HR1.out.cell 2
    have fra2 := HR1.out.frozen 2
    have ra3 := HR1.out.cell 3
    have fra3 := HR1.out.frozen 3
    have rla := HR1.out.lt
    simp at ra0 ra1 ra2 ra3
    go_wp2_with fail
    refine bodyPost_ret (v := .tuple #[.agg #[.int .i64 0, .int .i64 0, .string { data := #[] }, .slice none 0 0], .int .i64 1]) (by simp only [results, Try.results28]; go_simp) rfl ⟨ren_zero (by decide), ?_⟩
    repeat refine Below.setCell ?_ hrw _
    exact HB1.out
  · have hok := valid_ok hv
    have hcnt := hok.len
    have HOK := Lib.hid hok
    have HVT := Lib.hid hv
    have HA1 := Lib.hid (HA.out.next hb1)
    have hk1 := HK.out.below hb1 el
    have g0 := hk1.cell 0
    have g1 := hk1.cell 1
    have g2 := hk1.cell 2
    have g3 := hk1.cell 3
    have gl := hk1.lt
    have HK1 := Lib.hid hk1
    simp at g0 g1 g2 g3
    clear hb1 hv hok hk1 e0 e1 e2 e3 el
    go_wp2_with fail
    refine (vars_any _ t (Nat.lt_succ_self _) A c w1.heap.size 0 (.slice none 0 0) [] w1 (Nat.le_refl _) (by omega) (World.ownsRow_nil _ _ _ _) HA1.out).mono ?_
    rintro e w2 ⟨v2, n2, rfl, ho2, hg2, -⟩
    have hl2 : n2 ≤ 4000 := by have h1 := ho2.1; have h2 := varsT_len _ t [] (Nat.lt_succ_self _); simp at h1 h2; omega
    obtain ⟨A2, c2, rfl, hI2⟩ := own_ints ho2 (by omega)
    have HI := Lib.hid hI2
    have HB2 := Lib.hid (bNext HB1.out (bNone hg2))
    have HA2 := Lib.hid (HA1.out.next (bNone hg2))
    have hk2 := HK1.out.below (bNone hg2) gl
    have HR2 := Lib.hid (HR1.out.below (bNone hg2) HR1.out.lt)
    have HBD := Lib.hid (varsT_bd _ t [] (Nat.lt_succ_self _) HOK.out.ok (fun v h => by cases h))
    have k0 := hk2.cell 0
    have k1 := hk2.cell 1
    have k2 := hk2.cell 2
    have k3 := hk2.cell 3
    have kl := hk2.lt
    simp at k0 k1 k2 k3
    have HK2 := Lib.hid hk2
    clear ho2 hg2 hI2 hk2 g0 g1 g2 g3 gl
    go_wp2_with fail
    go_loopw [7] (fun i wr => ∃ k : Nat, k ≤ n2 ∧ i = .int .i64 (k : Int) ∧ Hid (wr = w2)) (fun i _ => n2 - (intOf i).toNat)
    case atStart => exact ⟨0, by omega, rfl, Lib.hid rfl⟩
    case round =>
      obtain ⟨k, hk, rfl, hwr⟩ := hrel
      obtain rfl := hwr.out
      clear hwr
      have rb0 := HR2.out.cell 0
      have frb0 := HR2.out.frozen 0
      have rb1 := HR2.out.cell 1
      have frb1 := HR2.out.frozen 1
      have rb2 := HR2.out.cell 2
      have frb2 := HR2.out.frozen 2
      have rb3 := HR2.out.cell 3
      have frb3 := HR2.out.frozen 3
      have rlb := HR2.out.lt
      simp at rb0 rb1 rb2 rb3
      by_cases hlt : k < n2
      · obtain ⟨b, off, x, rfl, hbI, hx, h1⟩ := HI.out.at hlt
        have hxb := HBD.out x (List.mem_of_getElem? hx)
        have hx0 := hxb.1
        have hx1 := hxb.2
        have HX := Lib.hid hx
        clear hx hxb
        by_cases hg : 1099511627776 < x + sv
        · have hg1 : decide (x + sv > 1099511627776) = true := by simp; omega
          have hg2 : decide (1099511627776 < x + sv) = true := by simp; omega
          go_wp2_with fail
          refine bodyPost_ret (v := .tuple #[.agg #[.int .i64 0, .int .i64 0, .string { data := #[] }, .slice none 0 0], .int .i64 2]) (by simp only [results, Try.results28]; go_simp) rfl ⟨ren_zero (by decide), ?_⟩
          repeat refine Below.setCell ?_ hrw _
          exact HB2.out
        · have hg1 : decide (x + sv > 1099511627776) = false := by simp; omega
          have hg2 : decide (1099511627776 < x + sv) = false := by simp; omega
          go_wp2_with fail
          exact ⟨⟨k + 1, by omega, by go_num, Lib.hid (by first | rfl | trivial)⟩, by simp [intOf]; omega⟩
      · clear rb0 frb0 rb1 frb1 rb2 frb2 rb3 frb3 rlb
        go_wp2_with fail
        refine (shift_any sv hs0 hs1 _ t (Nat.lt_succ_self _) (by omega) HOK.out.ok A c wr HA2.out).mono ?_
        rintro e w3 ⟨⟨v3, rs3, rfl, hrs3, hm3⟩, hb3⟩
        obtain ⟨A3, c3, rfl⟩ := hm3.form
        have hl3 : rs3.length = t.args.length := by simpa using congrArg List.length hrs3
        have HR3 := Lib.hid (HR2.out.below hb3 HR2.out.lt)
        have HB3 := Lib.hid (bNext HB2.out hb3)
        have hrl3 : rs3.length ≤ 281474976710656 := by rw [hl3]; have := args_le t; omega
        have HA3 := Lib.hid ((hm3.read hrl3).keep (w' := w3) (G := fun b => b < w3.heap.size ∧ b ≠ r) (fun _ _ => rfl) (fun b h => ⟨h.2, by have := HR2.out.lt; have := h.1; omega⟩))
        have HL3 := Lib.hid hl3
        have HRS := Lib.hid hrs3
        clear hm3 hb3 hrs3 k0 k1 k2 k3 kl
        have rc0 := HR3.out.cell 0
        have frc0 := HR3.out.frozen 0
        have rc1 := HR3.out.cell 1
        have frc1 := HR3.out.frozen 1
        have rc2 := HR3.out.cell 2
        have frc2 := HR3.out.frozen 2
        have rc3 := HR3.out.cell 3
        have frc3 := HR3.out.frozen 3
        have rlc := HR3.out.lt
        simp at rc0 rc1 rc2 rc3
        go_wp2_with fail
        refine bodyPost_ret (v := .tuple #[.agg #[.int .i64 t.kind, .int .i64 (shF sv t.kind t.n), .string t.name, .slice A3 rs3.length c3], .int .i64 0]) (by simp only [results, Try.results28]; go_simp) rfl ⟨⟨.mk t.kind (shF sv t.kind t.n) t.name (rs3.map (·.1)), A3, c3, 0, ?_, ?_, fun _ => ⟨HVT.out, rfl, fun h => ?_, rfl, ?_⟩⟩, ?_⟩
        · unfold Tm.v
          rw [show (Tm.mk t.kind (shF sv t.kind t.n) t.name (rs3.map (·.1))).args.length = rs3.length by simp [Tm.args]]
          rfl
        · refine HA3.out.keep (fun b hb => ?_) (fun b hb => by simp; exact hb.1)
          repeat rw [heap_setCell_other _ _ _ _ (by simpa using hb.2)]
        · show shF sv t.kind t.n = t.n
          unfold shF
          rw [if_neg (by simpa using h)]
        · show (rs3.map (·.1)).length = _
          rw [List.length_map]
          exact HL3.out
        · repeat refine Below.setCell ?_ hrw _
          exact HB3.out
end Go.Proofs.Ytpkpdjekoghkcaa
