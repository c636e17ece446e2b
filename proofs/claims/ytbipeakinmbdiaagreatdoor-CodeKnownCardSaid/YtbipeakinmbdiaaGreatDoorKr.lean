/-
  Walks: the texts of registers, predicates and keys (code). Plain: how long the parts of a well-formed instruction are. Walk: the line of an instruction (code).
-/
import Derived.Test.YtbipeakinmbdiaaGreatDoorKj
import Derived.Test.YtbipeakinmbdiaaGreatDoorKe
namespace Go.Proofs.YtbipeakinmbdiaaGreatDoor
section
open Go.RowKit

theorem functor_any (s : ByteArray) (a : Int) (w : World) (hs : s.size ≤ 1000000) (ha : inR a) (h : Env w) :
    Calls Tryz.prog 76 #[.string s, .int .i64 a] w fun e w' => e = .returned (.string (S (funL s.data.toList a))) ∧ Below w.heap.size w w' := by
  have HA := Lib.hid ha
  have HE := Lib.hid h
  have hql := quote_len s.data.toList
  have hnl := num_len a ha
  have hsl : s.data.toList.length = s.size := Array.length_toList
  clear ha h
  obtain ⟨x, hx⟩ : ∃ x, Hid (x = quoteL s.data.toList) := ⟨_, rfl⟩
  obtain ⟨y, hy⟩ : ∃ y, Hid (y = numL a) := ⟨_, rfl⟩
  have HX := Lib.hid (show (S x).size ≤ 4000002 by rw [S_size, hx.out]; omega)
  have HY := Lib.hid (show (S y).size ≤ 21 by rw [S_size, hy.out]; omega)
  clear hql hnl hsl
  go_enter Tryz.func76, Tryz.ntmps76
  go_wp2_with fail
  refine (quote_any s w (by omega)).mono ?_
  rintro e w1 ⟨rfl, hb1⟩
  have HB1 := Lib.hid hb1
  have HE1 := Lib.hid (HE.out.next hb1)
  clear hb1
  rw [← hx.out]
  have hx1 := HX.out
  go_wp2_with fail
  refine (itoa_any a w1 HA.out HE1.out).mono ?_
  rintro e w2 ⟨rfl, hb2⟩
  have HB2 := Lib.hid (bNext HB1.out hb2)
  clear hb2
  rw [← hy.out]
  have hy1 := HY.out
  go_wp2_with fail
  go_ret
  refine ⟨ret_str ?_, HB2.out⟩
  rw [show (⟨#[47]⟩ : ByteArray) = S [47] from rfl, S_app, S_app, hx.out, hy.out]
  unfold funL
  simp
theorem reg_any (r : Int) (w : World) (hr : -4096 ≤ r ∧ r ≤ 4096) (h : Env w) :
    Calls Tryz.prog 78 #[.int .i64 r] w fun e w' => e = .returned (.string (S (regL r))) ∧ Below w.heap.size w w' := by
  have HE := Lib.hid h
  have HR := Lib.hid hr
  clear h hr
  by_cases hn : r < 0
  · have q1 : decide (r < 0) = true := by simpa using hn
    have hw : IntKind.wrap .i64 (-r) = -r := wrapI (by have := HR.out; omega)
    have hnl := num_len (-r) (by have := HR.out; unfold inR; omega)
    obtain ⟨y, hy⟩ : ∃ y, Hid (y = numL (-r)) := ⟨_, rfl⟩
    have HY := Lib.hid (show (S y).size ≤ 21 by rw [S_size, hy.out]; omega)
    have HF := Lib.hid (show regL r = 89 :: y by unfold regL; rw [if_pos hn, hy.out])
    clear hn hnl
    go_enter Tryz.func78, Tryz.ntmps78
    go_wp2_with fail
    refine (itoa_any (-r) w (by have := HR.out; unfold inR; omega) HE.out).mono ?_
    rintro e w1 ⟨rfl, hb1⟩
    have HB1 := Lib.hid hb1
    clear hb1
    rw [← hy.out]
    have hy1 := HY.out
    go_wp2_with fail
    go_ret
    exact ⟨ret_str (by rw [HF.out, show (⟨#[89]⟩ : ByteArray) = S [89] from rfl, S_app]; rfl), HB1.out⟩
  · have q1 : decide (r < 0) = false := by simpa using hn
    have hnl := num_len r (by have := HR.out; unfold inR; omega)
    obtain ⟨y, hy⟩ : ∃ y, Hid (y = numL r) := ⟨_, rfl⟩
    have HY := Lib.hid (show (S y).size ≤ 21 by rw [S_size, hy.out]; omega)
    have HF := Lib.hid (show regL r = 88 :: y by unfold regL; rw [if_neg hn, hy.out])
    clear hn hnl
    go_enter Tryz.func78, Tryz.ntmps78
    go_wp2_with fail
    refine (itoa_any r w (by have := HR.out; unfold inR; omega) HE.out).mono ?_
    rintro e w1 ⟨rfl, hb1⟩
    have HB1 := Lib.hid hb1
    clear hb1
    rw [← hy.out]
    have hy1 := HY.out
    go_wp2_with fail
    go_ret
    exact ⟨ret_str (by rw [HF.out, show (⟨#[88]⟩ : ByteArray) = S [88] from rfl, S_app]; rfl), HB1.out⟩
set_option maxHeartbeats 1000000 in
theorem predText_any (s : ByteArray) (a n : Int) (w : World) (hs : s.size ≤ 1000000) (ha : inR a) (hn : inR n) (h : Env w) :
    Calls Tryz.prog 37 #[.agg #[.string s, .int .i64 a, .int .i64 n]] w fun e w' => e = .returned (.string (S (predL s.data.toList a n))) ∧ Below w.heap.size w w' := by
  have HA := Lib.hid ha
  have HN := Lib.hid hn
  have HE := Lib.hid h
  clear ha hn h
  obtain ⟨w0, hw0⟩ : ∃ X, Hid (X = w.alloc (.cells #[.string s, .int .i64 a, .int .i64 n] 23)) := ⟨_, rfl⟩
  obtain ⟨q, hq⟩ : ∃ q, Hid (q = w.heap.size) := ⟨_, rfl⟩
  have HB0 := Lib.hid (show Below w.heap.size w w0 by rw [hw0.out]; exact bAlloc _ _)
  have HQ := Lib.hid (show Blk w0 q 23 #[.string s, .int .i64 a, .int .i64 n] by rw [hw0.out, hq.out]; exact Blk.new _ _ _)
  have HE0 := Lib.hid (HE.out.next HB0.out)
  go_enter Tryz.func37, Tryz.ntmps37
  go_upto_region 1 with fail
  rw [← hw0.out, ← hq.out]
  clear hw0 hq
  have p0 := HQ.out.cell 0
  have p1 := HQ.out.cell 1
  have p2 := HQ.out.cell 2
  have pl := HQ.out.lt
  simp at p0 p1 p2
  by_cases h0 : n = 0
  · subst h0
    have HF := Lib.hid (show predL s.data.toList a 0 = funL s.data.toList a from rfl)
    go_wp2_with fail
    refine (functor_any s a w0 hs HA.out HE0.out).mono ?_
    rintro e w1 ⟨rfl, hb1⟩
    have HB1 := Lib.hid (bNext HB0.out hb1)
    clear hb1 p0 p1 p2 pl
    go_wp2_with fail
    go_ret
    exact ⟨ret_str (by rw [HF.out]), HB1.out⟩
  · have q1 : (n != 0) = true := by simpa using h0
    have HF := Lib.hid (show predL s.data.toList a n = 35 :: (numL n ++ 47 :: numL a) by unfold predL; rw [if_neg h0])
    have hnl := num_len n HN.out
    have hal := num_len a HA.out
    obtain ⟨x, hx⟩ : ∃ x, Hid (x = numL n) := ⟨_, rfl⟩
    obtain ⟨y, hy⟩ : ∃ y, Hid (y = numL a) := ⟨_, rfl⟩
    have HX := Lib.hid (show (S x).size ≤ 21 by rw [S_size, hx.out]; omega)
    have HY := Lib.hid (show (S y).size ≤ 21 by rw [S_size, hy.out]; omega)
    clear h0 hnl hal
    go_upto_region 2 with fail
    obtain ⟨D, hD⟩ : ∃ X, Hid (X = w0.drew) := ⟨_, rfl⟩
    have hd : Below w0.heap.size w0 D := by rw [hD.out]; exact bDrewN (Below.refl _ _) 1
    refine wp_region_N (fun w' => Below w0.heap.size w0 w') (fun _ => true) (by kernel_rfl) ?_
    rw [← hD.out]
    clear hD p0 p1 p2 pl
    have hS0 := hd
    have HED := Lib.hid (HE0.out.next hd)
    refine wpAnyN_take (i := 0) (v := ?v1) rfl (by kernel_rfl) (by kernel_rfl) (by kernel_rfl) (by kernel_rfl) (fun _ _ _ h => h) (Or.inl ⟨by rfl, ?hy1⟩) (by assumption) ?_
    case hy1 => intro w hSw; (try dsimp only at hSw); go_simp; try with_reducible rfl
    simp only [Act.put, List.getElem_toArray, List.getElem_cons_zero, List.setIfInBounds_toArray, List.set_cons_zero, List.set_cons_succ]
    refine wpAnyN_take (i := 1) (v := ?v2) rfl (by kernel_rfl) (by kernel_rfl) (by kernel_rfl) (by kernel_rfl) (fun _ _ _ h => h) (Or.inl ⟨by rfl, ?hy2⟩) (by assumption) ?_
    case hy2 => intro w hSw; have hh := BlkNext HQ.out hSw; have p1 := hh.cell 1; have p2 := hh.cell 2; have pl := hh.lt; simp at p1 p2; clear hh; go_simp; try with_reducible rfl
    simp only [Act.put, List.getElem_toArray, List.getElem_cons_zero, List.getElem_cons_succ, List.setIfInBounds_toArray, List.set_cons_zero, List.set_cons_succ]
    refine wpAnyN_take (i := 5) (v := ?v3) rfl (by kernel_rfl) (by kernel_rfl) (by kernel_rfl) (by kernel_rfl) (fun _ _ _ h => h) (Or.inl ⟨by rfl, ?hy3⟩) (by assumption) ?_
    case hy3 => intro w hSw; (try dsimp only at hSw); go_simp; try with_reducible rfl
    simp only [Act.put, List.getElem_toArray, List.getElem_cons_zero, List.getElem_cons_succ, List.setIfInBounds_toArray, List.set_cons_zero, List.set_cons_succ]
    refine wpAnyN_take (i := 6) (v := ?v4) rfl (by kernel_rfl) (by kernel_rfl) (by kernel_rfl) (by kernel_rfl) (fun _ _ _ h => h) (Or.inl ⟨by rfl, ?hy4⟩) (by assumption) ?_
    case hy4 => intro w hSw; have hh := BlkNext HQ.out hSw; have p1 := hh.cell 1; have p2 := hh.cell 2; have pl := hh.lt; simp at p1 p2; clear hh; go_simp; try with_reducible rfl
    simp only [Act.put, List.getElem_toArray, List.getElem_cons_zero, List.getElem_cons_succ, List.setIfInBounds_toArray, List.set_cons_zero, List.set_cons_succ]
    refine wpAnyN_one (i := 2) (by kernel_rfl) rfl (fun K hK => ?_)
    simp only [List.getElem_toArray, List.getElem_cons_zero, List.getElem_cons_succ]
    go_simp
    refine (fmt_any n D HN.out HED.out).mono ?_
    rintro e w1 ⟨rfl, hb1⟩
    have hk1 : Below w0.heap.size w0 w1 := bNext hd hb1
    refine hK _ _ (fun _ => hk1) ?_
    have HE1 := Lib.hid (HED.out.next hb1)
    rw [← hx.out]
    have hx1 := HX.out
    clear hb1
    (try simp only [Act.put, List.setIfInBounds_toArray, List.set_cons_zero, List.set_cons_succ])
    refine wpAnyN_take (i := 3) (v := .string ((⟨#[35]⟩ : ByteArray) ++ S x)) rfl (by kernel_rfl) (by kernel_rfl) (by kernel_rfl) (by kernel_rfl) (fun _ _ _ h => h) (Or.inl ⟨by rfl, ?hv3⟩) (by assumption) ?_
    case hv3 => intro w hSw; go_simp; omega
    simp only [Act.put, List.getElem_toArray, List.getElem_cons_zero, List.getElem_cons_succ, List.setIfInBounds_toArray, List.set_cons_zero, List.set_cons_succ]
    refine wpAnyN_take (i := 4) (v := .string ((⟨#[35]⟩ : ByteArray) ++ S x ++ ⟨#[47]⟩)) rfl (by kernel_rfl) (by kernel_rfl) (by kernel_rfl) (by kernel_rfl) (fun _ _ _ h => h) (Or.inl ⟨by rfl, ?hv4⟩) (by assumption) ?_
    case hv4 => intro w hSw; go_simp; omega
    simp only [Act.put, List.getElem_toArray, List.getElem_cons_zero, List.getElem_cons_succ, List.setIfInBounds_toArray, List.set_cons_zero, List.set_cons_succ]
    refine wpAnyN_one (i := 7) (by kernel_rfl) rfl (fun K hK => ?_)
    simp only [List.getElem_toArray, List.getElem_cons_zero, List.getElem_cons_succ]
    go_simp
    refine (itoa_any a w1 HA.out HE1.out).mono ?_
    rintro e w2 ⟨rfl, hb2⟩
    have hk2 : Below w0.heap.size w0 w2 := bNext hk1 hb2
    refine hK _ _ (fun _ => hk2) ?_
    rw [← hy.out]
    have hy1 := HY.out
    (try simp only [Act.put, List.setIfInBounds_toArray, List.set_cons_zero, List.set_cons_succ])
    refine wpAnyN_take (i := 8) (v := .string ((⟨#[35]⟩ : ByteArray) ++ S x ++ ⟨#[47]⟩ ++ S y)) rfl (by kernel_rfl) (by kernel_rfl) (by kernel_rfl) (by kernel_rfl) (fun _ _ _ h => h) (Or.inl ⟨by rfl, ?hv8⟩) (by assumption) ?_
    case hv8 => intro w hSw; go_simp; omega
    simp only [Act.put, List.getElem_toArray, List.getElem_cons_zero, List.getElem_cons_succ, List.setIfInBounds_toArray, List.set_cons_zero, List.set_cons_succ]
    refine wpAnyN_take (i := 9) (v := ?v5) rfl (by kernel_rfl) (by kernel_rfl) (by kernel_rfl) (by kernel_rfl) (fun _ _ _ h => h) (Or.inl ⟨by rfl, ?hy5⟩) (by assumption) ?_
    case hy5 => intro w hSw; (try dsimp only at hSw); go_simp; try with_reducible rfl
    simp only [Act.put, List.getElem_toArray, List.getElem_cons_zero, List.getElem_cons_succ, List.setIfInBounds_toArray, List.set_cons_zero, List.set_cons_succ]
    refine wpAnyN_done (by kernel_rfl) ?_ _
    have HB2 := Lib.hid (bNext HB0.out hk2)
    clear hb2 hk1 hk2 hS0 hd
    go_wp2_with fail
    go_ret
    refine ⟨ret_str ?_, HB2.out⟩
    rw [HF.out, show (⟨#[35]⟩ : ByteArray) = S [35] from rfl, show (⟨#[47]⟩ : ByteArray) = S [47] from rfl, S_app, S_app, S_app, hx.out, hy.out]
    simp
theorem keyText_any (k n : Int) (s : ByteArray) (a : Int) (w : World) (hs : s.size ≤ 1000000) (ha : inR a) (hn : inR n) (h : Env w) :
    Calls Tryz.prog 38 #[.agg #[.int .i64 k, .int .i64 n, .string s, .int .i64 a]] w fun e w' => e = .returned (.string (S (keyL k n s.data.toList a))) ∧ Below w.heap.size w w' := by
  have HA := Lib.hid ha
  have HN := Lib.hid hn
  have HE := Lib.hid h
  clear ha hn h
  obtain ⟨w0, hw0⟩ : ∃ X, Hid (X = w.alloc (.cells #[.int .i64 k, .int .i64 n, .string s, .int .i64 a] 25)) := ⟨_, rfl⟩
  obtain ⟨q, hq⟩ : ∃ q, Hid (q = w.heap.size) := ⟨_, rfl⟩
  have HB0 := Lib.hid (show Below w.heap.size w w0 by rw [hw0.out]; exact bAlloc _ _)
  have HQ := Lib.hid (show Blk w0 q 25 #[.int .i64 k, .int .i64 n, .string s, .int .i64 a] by rw [hw0.out, hq.out]; exact Blk.new _ _ _)
  have HE0 := Lib.hid (HE.out.next HB0.out)
  go_enter Tryz.func38, Tryz.ntmps38
  go_upto_region 1 with fail
  rw [← hw0.out, ← hq.out]
  clear hw0 hq
  have p0 := HQ.out.cell 0
  have p1 := HQ.out.cell 1
  have p2 := HQ.out.cell 2
  have p3 := HQ.out.cell 3
  have pl := HQ.out.lt
  simp at p0 p1 p2 p3
  by_cases h1 : k = 1
  · subst h1
    go_wp2_with fail
    refine (fmt_any n w0 HN.out HE0.out).mono ?_
    rintro e w1 ⟨rfl, hb1⟩
    have HB1 := Lib.hid (bNext HB0.out hb1)
    clear hb1 p0 p1 p2 p3 pl
    go_wp2_with fail
    go_ret
    exact ⟨ret_str rfl, HB1.out⟩
  · have q1 : (k == 1) = false := by simpa using h1
    by_cases h2 : k = 2
    · subst h2
      clear h1
      go_wp2_with fail
      refine (quote_any s w0 (by omega)).mono ?_
      rintro e w1 ⟨rfl, hb1⟩
      have HB1 := Lib.hid (bNext HB0.out hb1)
      clear hb1 p0 p1 p2 p3 pl
      go_wp2_with fail
      go_ret
      exact ⟨ret_str rfl, HB1.out⟩
    · have q2 : (k == 2) = false := by simpa using h2
      by_cases h3 : k = 3
      · subst h3
        clear h1 h2
        go_wp2_with fail
        refine (functor_any s a w0 hs HA.out HE0.out).mono ?_
        rintro e w1 ⟨rfl, hb1⟩
        have HB1 := Lib.hid (bNext HB0.out hb1)
        clear hb1 p0 p1 p2 p3 pl
        go_wp2_with fail
        go_ret
        exact ⟨ret_str rfl, HB1.out⟩
      · have q3 : (k == 3) = false := by simpa using h3
        have HF := Lib.hid (show keyL k n s.data.toList a = [95] by unfold keyL; rw [if_neg h1, if_neg h2, if_neg h3])
        clear h1 h2 h3
        go_wp2_with fail
        go_ret
        exact ⟨ret_str (by rw [HF.out]; rfl), HB0.out⟩
end
section
open Go.RowKit

theorem nil_size {s : ByteArray} (h : s.toList = []) : s.size = 0 := by
  have e := nil_data h
  have e2 : s.data.toList.length = s.size := Array.length_toList
  rw [← e2, e]; rfl
theorem pd_facts {s : ByteArray} {a n : Int} (h : pdOk s a n = true) : s.size ≤ 100 ∧ (0 ≤ a ∧ a ≤ 4096) ∧ (0 ≤ n ∧ n ≤ 1099511627776) := by
  unfold pdOk at h
  by_cases hn : n = 0
  · rw [if_pos hn] at h; simp [nmOk] at h; omega
  · rw [if_neg hn] at h; simp at h
    have := nil_size h.1
    omega
structure FoN (x : In) : Prop where
  nm : x.nm.size ≤ 100
  ar : 0 ≤ x.ar ∧ x.ar ≤ 4096
  rg : (114 ∈ flds x.op → -4096 ≤ x.r ∧ x.r ≤ 4096) ∧ (97 ∈ flds x.op → -4096 ≤ x.a ∧ x.a ≤ 4096)
theorem fon1 (r a n : Int) (nm : ByteArray) (ar : Int) (h : fo ⟨1, r, a, n, nm, ar⟩ = true) : FoN ⟨1, r, a, n, nm, ar⟩ := by
  have h' := h
  rw [fo1] at h'
  simp [sameI, rOk, aOk] at h'
  exact ⟨by have e := nil_size (s := nm) (by simp [h']); show nm.size ≤ 100; omega, by show 0 ≤ ar ∧ ar ≤ 4096; omega, fun _ => by show -4096 ≤ r ∧ r ≤ 4096; omega, fun _ => by show -4096 ≤ a ∧ a ≤ 4096; omega⟩
theorem fon2 (r a n : Int) (nm : ByteArray) (ar : Int) (h : fo ⟨2, r, a, n, nm, ar⟩ = true) : FoN ⟨2, r, a, n, nm, ar⟩ := by
  have h' := h
  rw [fo2] at h'
  simp [sameI, rOk, aOk] at h'
  exact ⟨by have e := nil_size (s := nm) (by simp [h']); show nm.size ≤ 100; omega, by show 0 ≤ ar ∧ ar ≤ 4096; omega, fun _ => by show -4096 ≤ r ∧ r ≤ 4096; omega, fun _ => by show -4096 ≤ a ∧ a ≤ 4096; omega⟩
theorem fon3 (r a n : Int) (nm : ByteArray) (ar : Int) (h : fo ⟨3, r, a, n, nm, ar⟩ = true) : FoN ⟨3, r, a, n, nm, ar⟩ := by
  have h' := h
  rw [fo3] at h'
  simp [sameI, aOk] at h'
  exact ⟨by have e := nil_size (s := nm) (by simp [h']); show nm.size ≤ 100; omega, by show 0 ≤ ar ∧ ar ≤ 4096; omega, fun e => absurd (show (114 : UInt8) ∈ flds 3 from e) (by decide), fun _ => by show -4096 ≤ a ∧ a ≤ 4096; omega⟩
theorem fon4 (r a n : Int) (nm : ByteArray) (ar : Int) (h : fo ⟨4, r, a, n, nm, ar⟩ = true) : FoN ⟨4, r, a, n, nm, ar⟩ := by
  have h' := h
  rw [fo4] at h'
  simp [sameI, nmOk, aOk] at h'
  exact ⟨by show nm.size ≤ 100; omega, by show 0 ≤ ar ∧ ar ≤ 4096; omega, fun e => absurd (show (114 : UInt8) ∈ flds 4 from e) (by decide), fun _ => by show -4096 ≤ a ∧ a ≤ 4096; omega⟩
theorem fon5 (r a n : Int) (nm : ByteArray) (ar : Int) (h : fo ⟨5, r, a, n, nm, ar⟩ = true) : FoN ⟨5, r, a, n, nm, ar⟩ := by
  have h' := h
  rw [fo5] at h'
  simp [sameI, nmOk, aOk] at h'
  exact ⟨by show nm.size ≤ 100; omega, by show 0 ≤ ar ∧ ar ≤ 4096; omega, fun e => absurd (show (114 : UInt8) ∈ flds 5 from e) (by decide), fun _ => by show -4096 ≤ a ∧ a ≤ 4096; omega⟩
theorem fon6 (r a n : Int) (nm : ByteArray) (ar : Int) (h : fo ⟨6, r, a, n, nm, ar⟩ = true) : FoN ⟨6, r, a, n, nm, ar⟩ := by
  have h' := h
  rw [fo6] at h'
  simp [sameI, rOk] at h'
  exact ⟨by have e := nil_size (s := nm) (by simp [h']); show nm.size ≤ 100; omega, by show 0 ≤ ar ∧ ar ≤ 4096; omega, fun _ => by show -4096 ≤ r ∧ r ≤ 4096; omega, fun e => absurd (show (97 : UInt8) ∈ flds 6 from e) (by decide)⟩
theorem fon7 (r a n : Int) (nm : ByteArray) (ar : Int) (h : fo ⟨7, r, a, n, nm, ar⟩ = true) : FoN ⟨7, r, a, n, nm, ar⟩ := by
  have h' := h
  rw [fo7] at h'
  simp [sameI, rOk] at h'
  exact ⟨by have e := nil_size (s := nm) (by simp [h']); show nm.size ≤ 100; omega, by show 0 ≤ ar ∧ ar ≤ 4096; omega, fun _ => by show -4096 ≤ r ∧ r ≤ 4096; omega, fun e => absurd (show (97 : UInt8) ∈ flds 7 from e) (by decide)⟩
theorem fon8 (r a n : Int) (nm : ByteArray) (ar : Int) (h : fo ⟨8, r, a, n, nm, ar⟩ = true) : FoN ⟨8, r, a, n, nm, ar⟩ := by
  have h' := h
  rw [fo8] at h'
  simp [sameI] at h'
  exact ⟨by have e := nil_size (s := nm) (by simp [h']); show nm.size ≤ 100; omega, by show 0 ≤ ar ∧ ar ≤ 4096; omega, fun e => absurd (show (114 : UInt8) ∈ flds 8 from e) (by decide), fun e => absurd (show (97 : UInt8) ∈ flds 8 from e) (by decide)⟩
theorem fon9 (r a n : Int) (nm : ByteArray) (ar : Int) (h : fo ⟨9, r, a, n, nm, ar⟩ = true) : FoN ⟨9, r, a, n, nm, ar⟩ := by
  have h' := h
  rw [fo9] at h'
  simp [sameI, nmOk] at h'
  exact ⟨by show nm.size ≤ 100; omega, by show 0 ≤ ar ∧ ar ≤ 4096; omega, fun e => absurd (show (114 : UInt8) ∈ flds 9 from e) (by decide), fun e => absurd (show (97 : UInt8) ∈ flds 9 from e) (by decide)⟩
theorem fon10 (r a n : Int) (nm : ByteArray) (ar : Int) (h : fo ⟨10, r, a, n, nm, ar⟩ = true) : FoN ⟨10, r, a, n, nm, ar⟩ := by
  have h' := h
  rw [fo10] at h'
  simp [sameI] at h'
  exact ⟨by have e := nil_size (s := nm) (by simp [h']); show nm.size ≤ 100; omega, by show 0 ≤ ar ∧ ar ≤ 4096; omega, fun e => absurd (show (114 : UInt8) ∈ flds 10 from e) (by decide), fun e => absurd (show (97 : UInt8) ∈ flds 10 from e) (by decide)⟩
theorem fon11 (r a n : Int) (nm : ByteArray) (ar : Int) (h : fo ⟨11, r, a, n, nm, ar⟩ = true) : FoN ⟨11, r, a, n, nm, ar⟩ := by
  have h' := h
  rw [fo11] at h'
  simp [sameI, rOk, aOk] at h'
  exact ⟨by have e := nil_size (s := nm) (by simp [h']); show nm.size ≤ 100; omega, by show 0 ≤ ar ∧ ar ≤ 4096; omega, fun _ => by show -4096 ≤ r ∧ r ≤ 4096; omega, fun _ => by show -4096 ≤ a ∧ a ≤ 4096; omega⟩
theorem fon12 (r a n : Int) (nm : ByteArray) (ar : Int) (h : fo ⟨12, r, a, n, nm, ar⟩ = true) : FoN ⟨12, r, a, n, nm, ar⟩ := by
  have h' := h
  rw [fo12] at h'
  simp [sameI, rOk, aOk] at h'
  exact ⟨by have e := nil_size (s := nm) (by simp [h']); show nm.size ≤ 100; omega, by show 0 ≤ ar ∧ ar ≤ 4096; omega, fun _ => by show -4096 ≤ r ∧ r ≤ 4096; omega, fun _ => by show -4096 ≤ a ∧ a ≤ 4096; omega⟩
theorem fon13 (r a n : Int) (nm : ByteArray) (ar : Int) (h : fo ⟨13, r, a, n, nm, ar⟩ = true) : FoN ⟨13, r, a, n, nm, ar⟩ := by
  have h' := h
  rw [fo13] at h'
  simp [sameI, aOk] at h'
  exact ⟨by have e := nil_size (s := nm) (by simp [h']); show nm.size ≤ 100; omega, by show 0 ≤ ar ∧ ar ≤ 4096; omega, fun e => absurd (show (114 : UInt8) ∈ flds 13 from e) (by decide), fun _ => by show -4096 ≤ a ∧ a ≤ 4096; omega⟩
theorem fon14 (r a n : Int) (nm : ByteArray) (ar : Int) (h : fo ⟨14, r, a, n, nm, ar⟩ = true) : FoN ⟨14, r, a, n, nm, ar⟩ := by
  have h' := h
  rw [fo14] at h'
  simp [sameI, nmOk, aOk] at h'
  exact ⟨by show nm.size ≤ 100; omega, by show 0 ≤ ar ∧ ar ≤ 4096; omega, fun e => absurd (show (114 : UInt8) ∈ flds 14 from e) (by decide), fun _ => by show -4096 ≤ a ∧ a ≤ 4096; omega⟩
theorem fon15 (r a n : Int) (nm : ByteArray) (ar : Int) (h : fo ⟨15, r, a, n, nm, ar⟩ = true) : FoN ⟨15, r, a, n, nm, ar⟩ := by
  have h' := h
  rw [fo15] at h'
  simp [sameI, nmOk, rOk] at h'
  exact ⟨by show nm.size ≤ 100; omega, by show 0 ≤ ar ∧ ar ≤ 4096; omega, fun _ => by show -4096 ≤ r ∧ r ≤ 4096; omega, fun e => absurd (show (97 : UInt8) ∈ flds 15 from e) (by decide)⟩
theorem fon16 (r a n : Int) (nm : ByteArray) (ar : Int) (h : fo ⟨16, r, a, n, nm, ar⟩ = true) : FoN ⟨16, r, a, n, nm, ar⟩ := by
  have h' := h
  rw [fo16] at h'
  simp [sameI] at h'
  exact ⟨by have e := nil_size (s := nm) (by simp [h']); show nm.size ≤ 100; omega, by show 0 ≤ ar ∧ ar ≤ 4096; omega, fun e => absurd (show (114 : UInt8) ∈ flds 16 from e) (by decide), fun e => absurd (show (97 : UInt8) ∈ flds 16 from e) (by decide)⟩
theorem fon17 (r a n : Int) (nm : ByteArray) (ar : Int) (h : fo ⟨17, r, a, n, nm, ar⟩ = true) : FoN ⟨17, r, a, n, nm, ar⟩ := by
  have h' := h
  rw [fo17] at h'
  simp [sameI] at h'
  exact ⟨by have e := nil_size (s := nm) (by simp [h']); show nm.size ≤ 100; omega, by show 0 ≤ ar ∧ ar ≤ 4096; omega, fun e => absurd (show (114 : UInt8) ∈ flds 17 from e) (by decide), fun e => absurd (show (97 : UInt8) ∈ flds 17 from e) (by decide)⟩
theorem fon18 (r a n : Int) (nm : ByteArray) (ar : Int) (h : fo ⟨18, r, a, n, nm, ar⟩ = true) : FoN ⟨18, r, a, n, nm, ar⟩ := by
  have h' := h
  rw [fo18] at h'
  simp [sameI] at h'
  exact ⟨by have e := nil_size (s := nm) (by simp [h']); show nm.size ≤ 100; omega, by show 0 ≤ ar ∧ ar ≤ 4096; omega, fun e => absurd (show (114 : UInt8) ∈ flds 18 from e) (by decide), fun e => absurd (show (97 : UInt8) ∈ flds 18 from e) (by decide)⟩
theorem fon19 (r a n : Int) (nm : ByteArray) (ar : Int) (h : fo ⟨19, r, a, n, nm, ar⟩ = true) : FoN ⟨19, r, a, n, nm, ar⟩ := by
  have h' := h
  rw [fo19] at h'
  simp [sameI] at h'
  have hp := pd_facts (s := nm) (a := ar) (n := n) (by first | exact h' | exact h'.1)
  exact ⟨hp.1, hp.2.1, fun e => absurd (show (114 : UInt8) ∈ flds 19 from e) (by decide), fun e => absurd (show (97 : UInt8) ∈ flds 19 from e) (by decide)⟩
theorem fon20 (r a n : Int) (nm : ByteArray) (ar : Int) (h : fo ⟨20, r, a, n, nm, ar⟩ = true) : FoN ⟨20, r, a, n, nm, ar⟩ := by
  have h' := h
  rw [fo20] at h'
  simp [sameI] at h'
  have hp := pd_facts (s := nm) (a := ar) (n := n) (by first | exact h' | exact h'.1)
  exact ⟨hp.1, hp.2.1, fun e => absurd (show (114 : UInt8) ∈ flds 20 from e) (by decide), fun e => absurd (show (97 : UInt8) ∈ flds 20 from e) (by decide)⟩
theorem fon21 (r a n : Int) (nm : ByteArray) (ar : Int) (h : fo ⟨21, r, a, n, nm, ar⟩ = true) : FoN ⟨21, r, a, n, nm, ar⟩ := by
  have h' := h
  rw [fo21] at h'
  simp [sameI] at h'
  exact ⟨by have e := nil_size (s := nm) (by simp [h']); show nm.size ≤ 100; omega, by show 0 ≤ ar ∧ ar ≤ 4096; omega, fun e => absurd (show (114 : UInt8) ∈ flds 21 from e) (by decide), fun e => absurd (show (97 : UInt8) ∈ flds 21 from e) (by decide)⟩
theorem fon22 (r a n : Int) (nm : ByteArray) (ar : Int) (h : fo ⟨22, r, a, n, nm, ar⟩ = true) : FoN ⟨22, r, a, n, nm, ar⟩ := by
  have h' := h
  rw [fo22] at h'
  simp [sameI, rOk] at h'
  exact ⟨by have e := nil_size (s := nm) (by simp [h']); show nm.size ≤ 100; omega, by show 0 ≤ ar ∧ ar ≤ 4096; omega, fun _ => by show -4096 ≤ r ∧ r ≤ 4096; omega, fun e => absurd (show (97 : UInt8) ∈ flds 22 from e) (by decide)⟩
theorem fon23 (r a n : Int) (nm : ByteArray) (ar : Int) (h : fo ⟨23, r, a, n, nm, ar⟩ = true) : FoN ⟨23, r, a, n, nm, ar⟩ := by
  have h' := h
  rw [fo23] at h'
  simp [sameI, rOk] at h'
  exact ⟨by have e := nil_size (s := nm) (by simp [h']); show nm.size ≤ 100; omega, by show 0 ≤ ar ∧ ar ≤ 4096; omega, fun _ => by show -4096 ≤ r ∧ r ≤ 4096; omega, fun e => absurd (show (97 : UInt8) ∈ flds 23 from e) (by decide)⟩
theorem fon24 (r a n : Int) (nm : ByteArray) (ar : Int) (h : fo ⟨24, r, a, n, nm, ar⟩ = true) : FoN ⟨24, r, a, n, nm, ar⟩ := by
  have h' := h
  rw [fo24] at h'
  simp [sameI, rOk] at h'
  exact ⟨by have e := nil_size (s := nm) (by simp [h']); show nm.size ≤ 100; omega, by show 0 ≤ ar ∧ ar ≤ 4096; omega, fun _ => by show -4096 ≤ r ∧ r ≤ 4096; omega, fun e => absurd (show (97 : UInt8) ∈ flds 24 from e) (by decide)⟩
theorem fon25 (r a n : Int) (nm : ByteArray) (ar : Int) (h : fo ⟨25, r, a, n, nm, ar⟩ = true) : FoN ⟨25, r, a, n, nm, ar⟩ := by
  have h' := h
  rw [fo25] at h'
  simp [sameI] at h'
  exact ⟨by have e := nil_size (s := nm) (by simp [h']); show nm.size ≤ 100; omega, by show 0 ≤ ar ∧ ar ≤ 4096; omega, fun e => absurd (show (114 : UInt8) ∈ flds 25 from e) (by decide), fun e => absurd (show (97 : UInt8) ∈ flds 25 from e) (by decide)⟩
theorem fon {x : In} (h : fo x = true) : FoN x := by
  obtain ⟨op, r, a, n, nm, ar⟩ := x
  rcases op_cases (fo_op h) with rfl | rfl | rfl | rfl | rfl | rfl | rfl | rfl | rfl | rfl | rfl | rfl | rfl | rfl | rfl | rfl | rfl | rfl | rfl | rfl | rfl | rfl | rfl | rfl | rfl
  · exact fon1 _ _ _ _ _ h
  · exact fon2 _ _ _ _ _ h
  · exact fon3 _ _ _ _ _ h
  · exact fon4 _ _ _ _ _ h
  · exact fon5 _ _ _ _ _ h
  · exact fon6 _ _ _ _ _ h
  · exact fon7 _ _ _ _ _ h
  · exact fon8 _ _ _ _ _ h
  · exact fon9 _ _ _ _ _ h
  · exact fon10 _ _ _ _ _ h
  · exact fon11 _ _ _ _ _ h
  · exact fon12 _ _ _ _ _ h
  · exact fon13 _ _ _ _ _ h
  · exact fon14 _ _ _ _ _ h
  · exact fon15 _ _ _ _ _ h
  · exact fon16 _ _ _ _ _ h
  · exact fon17 _ _ _ _ _ h
  · exact fon18 _ _ _ _ _ h
  · exact fon19 _ _ _ _ _ h
  · exact fon20 _ _ _ _ _ h
  · exact fon21 _ _ _ _ _ h
  · exact fon22 _ _ _ _ _ h
  · exact fon23 _ _ _ _ _ h
  · exact fon24 _ _ _ _ _ h
  · exact fon25 _ _ _ _ _ h
end
section
open Go.RowKit

theorem info9 : (Tryz.prog.info? 9).map (fun i => (i.zero, i.size, i.bytes)) = some (some (.string ⟨#[]⟩), 1, 16) := by kernel_rfl
/-- the cells of strings -/
def sCs (l : List (List UInt8)) : List Value := l.map fun t => .string (S t)
theorem sCs_app (l : List (List UInt8)) (t : List UInt8) : sCs (l ++ [t]) = sCs l ++ [.string (S t)] := by simp [sCs]
/-- where the walk of a line stands -/
def LtAt (w0 wr : World) (b2 it : Nat) (s : ByteArray) (x : In) (k : Nat) (v : Value) (l : List (List UInt8)) : Prop :=
  BoxI wr b2 x ∧ wr.heap[it]? = some (.stringIter s k) ∧ (wr.ownsRow w0.heap.size 9 1 v l.length (sCs l) ∧ v.ownBlock ≠ some it ∧ v.ownBlock ≠ some b2) ∧ Below w0.heap.size w0 wr ∧ (b2 ≠ it ∧ w0.heap.size ≤ b2 ∧ w0.heap.size ≤ it)
section
variable {w0 wr w2 w3 : World} {b2 it : Nat} {s : ByteArray} {x : In} {k j : Nat} {v v' : Value} {l : List (List UInt8)}
theorem LtAt.step (h : LtAt w0 wr b2 it s x k v l) : LtAt w0 (wr.iterAt it s j) b2 it s x j v l := by
  obtain ⟨h1, h3, ⟨h2, h2', h2''⟩, h4, h5, h6, h7⟩ := h
  have hz : (wr.iterAt it s j).heap.size = wr.heap.size := by simp [World.iterAt]
  refine ⟨(Lib.iterAt_other _ _ _ _ _ h5).trans h1, Lib.iterAt_heap _ _ _ _ _ h3, ⟨own_stay h2 fun g hg => Lib.iterAt_other _ _ _ _ _ (fun e => h2' (by rw [hg, e])), h2', h2''⟩, ?_, h5, h6, h7⟩
  exact ⟨h4.os, h4.tape, h4.output, by rw [hz]; exact h4.size, fun g hg => (Lib.iterAt_other _ _ _ _ _ (by omega)).trans (h4.block g hg)⟩
theorem LtAt.next (h : LtAt w0 wr b2 it s x k v l) (hb : Below wr.heap.size wr w2) : LtAt w0 w2 b2 it s x k v l := by
  obtain ⟨h1, h3, ⟨h2, h2', h2''⟩, h4, h5⟩ := h
  exact ⟨Blk.next h1 hb, (hb.block it (Array.getElem?_eq_some_iff.1 h3).1).trans h3, ⟨own_next h2 hb, h2', h2''⟩, bNext h4 hb, h5⟩
theorem LtAt.app {t : List UInt8} {o : Obj} (h : LtAt w0 wr b2 it s x k v l) (ho : w3.ownsRow w0.heap.size 9 1 v' (l.length + 1) (sCs l ++ [.string (S t)])) (hg : (wr.alloc o).grownBy w3 v.ownBlock)
    (hv : v'.ownBlock = v.ownBlock ∨ v'.ownBlock = some (wr.heap.size + 1)) : LtAt w0 w3 b2 it s x k v' (l ++ [t]) := by
  obtain ⟨h1, h3, ⟨h2, h2', h2''⟩, h4, h5, h6, h7⟩ := h
  have hlt : it < wr.heap.size := (Array.getElem?_eq_some_iff.1 h3).1
  have hlb : b2 < wr.heap.size := Blk.lt h1
  have hz : (wr.alloc o).heap.size = wr.heap.size + 1 := by simp
  refine ⟨(Blk.alloc h1 o).grown hg h2'', ?_, ⟨?_, ?_, ?_⟩, ?_, h5, h6, h7⟩
  · rw [hg.block it (by omega) (fun e => h2' e.symm), heap_alloc_old _ _ hlt]; exact h3
  · rw [List.length_append, sCs_app]; exact ho
  · rcases hv with e | e <;> rw [e]
    · exact h2'
    · intro e2; injection e2; omega
  · rcases hv with e | e <;> rw [e]
    · exact h2''
    · intro e2; injection e2; omega
  · exact (h4.alloc h4.size o).grown hg (by have := h4.size; omega) (fun g e => (own_lt h2 e).1)
theorem LtAt.pos (h : LtAt w0 wr b2 it s x k v l) : wr.iterPos it = k := by unfold World.iterPos; rw [h.2.1]
end
theorem join_sp (a : List UInt8) (r : List (List UInt8)) : Lib.join (a :: r) [32] = a ++ r.flatMap (fun t => 32 :: t) := by
  rw [Lib.join_cons]
  unfold Lib.joinTail
  rw [List.flatMap_def]
  rfl
theorem line_join (x : In) : lineL x = Lib.join (nameL x.op :: (flds x.op).map (fieldL x)) [32] := by
  rw [join_sp, List.flatMap_map]
  rfl
theorem field_len {x : In} (h : fo x = true) (hn : inR x.n) {c : UInt8} (hc : c ∈ flds x.op) : (fieldL x c).length ≤ 450 := by
  have F := fon h
  have hnn := num_len x.n hn
  have har := num_len x.ar (by have := F.ar; unfold inR; omega)
  have hq := quote_len x.nm.data.toList
  have hs : x.nm.data.toList.length = x.nm.size := Array.length_toList
  have hnm := F.nm
  have hreg : ∀ r, -4096 ≤ r ∧ r ≤ 4096 → (regL r).length ≤ 22 := fun r hr => by
    unfold regL
    split
    · have := num_len (-r) (by unfold inR; omega); simp; omega
    · have := num_len r (by unfold inR; omega); simp; omega
  have hfun : (funL x.nm.data.toList x.ar).length ≤ 424 := by unfold funL; simp only [List.length_append, List.length_cons]; omega
  rcases flds_mem x.op c hc with rfl | rfl | rfl | rfl | rfl | rfl | rfl | rfl
  · have := hreg x.r (F.rg.1 hc); show (regL x.r).length ≤ 450; omega
  · have := hreg x.a (F.rg.2 hc); show (regL x.a).length ≤ 450; omega
  · show (numL x.n).length ≤ 450; omega
  · show (numL x.n).length ≤ 450; omega
  · show (numL x.n).length ≤ 450; omega
  · show (quoteL x.nm.data.toList).length ≤ 450; omega
  · show (funL x.nm.data.toList x.ar).length ≤ 450; omega
  · show (predL x.nm.data.toList x.ar x.n).length ≤ 450
    unfold predL
    split
    · omega
    · simp only [List.length_append, List.length_cons]; omega
theorem name_len (op : Int) : (nameL op).length ≤ 10 := by
  cases h : okOp op with
  | false => unfold nameL; rw [sh_out h]; decide
  | true => rcases op_cases h with rfl | rfl | rfl | rfl | rfl | rfl | rfl | rfl | rfl | rfl | rfl | rfl | rfl | rfl | rfl | rfl | rfl | rfl | rfl | rfl | rfl | rfl | rfl | rfl | rfl <;> decide
theorem line_len {x : In} (h : fo x = true) (hn : inR x.n) : (lineL x).length ≤ 1000 := by
  have h1 := name_len x.op
  unfold lineL
  rw [List.length_append]
  have h2 : ((flds x.op).flatMap fun c => 32 :: fieldL x c).length ≤ 902 := by
    rcases flds_two (fo_op h) with e | ⟨c, e, _⟩ | ⟨c, d, e, _⟩
    · rw [e]; simp
    · rw [e]
      have := field_len h hn (c := c) (by rw [e]; simp)
      simp; omega
    · rw [e]
      have := field_len h hn (c := c) (by rw [e]; simp)
      have := field_len h hn (c := d) (by rw [e]; simp)
      simp; omega
  omega
theorem flds_len (op : Int) : (sh op).2.1.size ≤ 2 := by
  cases h : okOp op with
  | false => rw [sh_out h]; decide
  | true => rcases op_cases h with rfl | rfl | rfl | rfl | rfl | rfl | rfl | rfl | rfl | rfl | rfl | rfl | rfl | rfl | rfl | rfl | rfl | rfl | rfl | rfl | rfl | rfl | rfl | rfl | rfl <;> decide
set_option maxRecDepth 100000 in
set_option maxHeartbeats 2000000 in
theorem lineText_any (x : In) (w : World) (hf : fo x = true) (hn : inR x.n) (h : Env w) : Calls Tryz.prog 39 #[x.v] w fun e w' => e = .returned (.string (S (lineL x))) ∧ Below w.heap.size w w' := by
  obtain ⟨i9, hi, hz0, hz1, hz2⟩ := info_parts info9
  have HI := Lib.hid hz1
  have HNR := Lib.hid hn
  have HE := Lib.hid h
  have HF := Lib.hid hf
  have HFN := Lib.hid (fon hf)
  have HNM := Lib.hid (show x.nm.size ≤ 1000000 by have := HFN.out.nm; omega)
  have HNB := Lib.hid (show x.nm.size ≤ 1000000000 by have := HFN.out.nm; omega)
  have HAR := Lib.hid (show inR x.ar by have := HFN.out.ar; unfold inR; omega)
  clear hn h hf
  obtain ⟨w0, hw0⟩ : ∃ X, Hid (X = w.alloc (.cells #[.int .i64 x.op, .int .i64 x.r, .int .i64 x.a, .int .i64 x.n, .string x.nm, .int .i64 x.ar] 34)) := ⟨_, rfl⟩
  obtain ⟨q, hq⟩ : ∃ q, Hid (q = w.heap.size) := ⟨_, rfl⟩
  have HX := Lib.hid (show BoxI w0 q x by rw [hw0.out, hq.out]; exact BoxI.new w x)
  have HB0 := Lib.hid (show Below w.heap.size w w0 by rw [hw0.out]; exact bAlloc _ _)
  have hqw : w.heap.size ≤ q := by rw [hq.out]; exact Nat.le_refl _
  go_enter Tryz.func39, Tryz.ntmps39
  go_upto_region 1 with fail
  rw [← hw0.out, ← hq.out]
  clear hw0 hq
  obtain ⟨x0, x1, x2, x3, x4, x5⟩ := BoxI.cells HX.out
  go_wp2_with fail
  refine (shapeOf_any x.op w0).mono ?_
  rintro e w1 ⟨rfl, hb1⟩
  have HX1 := Lib.hid (BlkNext HX.out hb1)
  have HB1 := Lib.hid (bNext HB0.out hb1)
  clear hb1 x0 x1 x2 x3 x4 x5 HX HB0
  go_upto_region 3 with fail
  obtain ⟨s, hs⟩ : ∃ s, Hid (s = (sh x.op).2.1) := ⟨_, rfl⟩
  have hs2 : s.size ≤ 2 := by rw [hs.out]; exact flds_len _
  have HFL := Lib.hid (show flds x.op = s.data.toList by rw [hs.out]; rfl)
  obtain ⟨w2, hw2⟩ : ∃ X, Hid (X = (w1.alloc (.cells #[.string (sh x.op).1, .string (sh x.op).2.1, .string (sh x.op).2.2.1, .string (sh x.op).2.2.2] 90)).alloc (.cells #[.string (sh x.op).1] 9)) := ⟨_, rfl⟩
  have HS2 := Lib.hid (show Blk w2 w1.heap.size 90 #[.string (sh x.op).1, .string (sh x.op).2.1, .string (sh x.op).2.2.1, .string (sh x.op).2.2.2] by rw [hw2.out]; exact (Blk.new _ _ _).alloc _)
  have HSZ := Lib.hid (show w2.heap.size = w1.heap.size + 2 by rw [hw2.out]; simp)
  have hnm : S (nameL x.op) = (sh x.op).1 := S_eta _
  have HO2 := Lib.hid (show w2.ownsRow w.heap.size 9 1 (.slice (some ⟨w1.heap.size + 1, 0, none⟩) 1 1) 1 (sCs [nameL x.op]) by
    have h := World.ownsRow_lit (base := w.heap.size) (e := 9) (size := 1) (w1.alloc (.cells #[.string (sh x.op).1, .string (sh x.op).2.1, .string (sh x.op).2.2.1, .string (sh x.op).2.2.2] 90)) #[.string (sh x.op).1] 1 (by have := HB1.out.size; simp; omega) (by unfold maxLen; omega) rfl
    rw [World.size_alloc] at h
    rw [hw2.out]
    show World.ownsRow _ _ _ _ _ _ [.string (S (nameL x.op))]
    rw [hnm]
    exact h)
  have HX2 := Lib.hid (show BoxI w2 q x by rw [hw2.out]; exact Blk.alloc (Blk.alloc HX1.out _) _)
  have HB2 := Lib.hid (show Below w.heap.size w w2 by rw [hw2.out]; exact (HB1.out.alloc HB1.out.size _).alloc (by have := HB1.out.size; simp; omega) _)
  have hql : q < w1.heap.size := Blk.lt HX1.out
  have hw12 : w.heap.size ≤ w1.heap.size := HB1.out.size
  rw [← hw2.out]
  have s1 := HS2.out.cell 1
  have sl := HS2.out.lt
  simp at s1
  rw [← hs.out] at s1
  clear hw2 HS2 HX1 HB1 hnm
  go_wp2_with fail
  clear s1 sl
  obtain ⟨it, hit⟩ : ∃ i, Hid (i = w2.heap.size) := ⟨_, rfl⟩
  rw [← hit.out]
  have HIT2 := Lib.hid (show it = w1.heap.size + 2 by rw [hit.out, HSZ.out])
  go_loopw [5] (fun v wr => ∃ k : Nat, k ≤ s.size ∧ Hid (LtAt w wr q it s x k v (nameL x.op :: (s.data.toList.take k).map (fieldL x)))) (fun _ wr => s.size - wr.iterPos it)
  case atStart =>
    refine ⟨0, Nat.zero_le _, Lib.hid ⟨Blk.alloc HX2.out _, by rw [hit.out]; exact World.iter_heap _ _ _, ⟨HO2.out.alloc _, ?_, ?_⟩, HB2.out.alloc HB2.out.size _, by have := HIT2.out; omega, hqw, by have := HIT2.out; omega⟩⟩
    · intro e
      have e' : some (w1.heap.size + 1) = some it := e
      injection e' with e'
      have := HIT2.out
      omega
    · intro e
      have e' : some (w1.heap.size + 1) = some q := e
      injection e' with e'
      omega
  case round =>
    obtain ⟨k, hk, HR⟩ := hrel
    generalize hl : nameL x.op :: (s.data.toList.take k).map (fieldL x) = l at HR
    have HL := Lib.hid hl
    have hll : l.length ≤ 3 := by
      rw [← hl]
      have : (s.data.toList.take k).length ≤ k := List.length_take_le _ _
      simp only [List.length_cons, List.length_map]
      omega
    clear hl
    by_cases hlt : k < s.size
    · have hget : s.data.toList[k]? = some (s[k]'hlt) := by simp [hlt]; rfl
      have hmem := flds_mem x.op _ (by rw [HFL.out]; exact List.mem_of_getElem? hget)
      have hmem2 : (s[k]'hlt) ∈ flds x.op := by rw [HFL.out]; exact List.mem_of_getElem? hget
      generalize hc : s[k]'hlt = c at hget hmem hmem2
      have HC := Lib.hid hc
      have HMEM := Lib.hid hmem2
      have HSN := Lib.hid (show nameL x.op :: (s.data.toList.take (k + 1)).map (fieldL x) = l ++ [fieldL x c] by rw [List.take_add_one, hget, ← HL.out]; simp)
      clear hc hget hmem2
      obtain ⟨w2, hw2⟩ : ∃ w2, w2 = wr.iterAt it s (k + 1) := ⟨_, rfl⟩
      have HN : Hid (LtAt w w2 q it s x (k + 1) u5 l) := by rw [hw2]; exact Lib.hid HR.out.step
      have HW := Lib.hid hw2
      have HE2 := Lib.hid (HE.out.next HN.out.2.2.2.1)
      clear hw2
      rcases hmem with rfl | rfl | rfl | rfl | rfl | rfl | rfl | rfl
      · have hn := fun ty => next_lit hlt HR.out.2.1 HC.out (by decide) 114 rfl ty
        rw [← HW.out] at hn
        obtain ⟨p0, p1, p2, p3, p4, p5⟩ := BoxI.cells HN.out.1
        go_wp2_with fail
        refine (reg_any x.r w2 (HFN.out.rg.1 HMEM.out) HE2.out).mono ?_
        rintro e w3 ⟨rfl, hb3⟩
        have HN3 := Lib.hid (HN.out.next hb3)
        clear hb3 p0 p1 p2 p3 p4 p5 hn
        have hsz : it < w3.heap.size := (Array.getElem?_eq_some_iff.1 HN3.out.2.1).1
        go_wp2_with (at_builtin; refine wpList_append_own_at _ rfl (.tmp 32) (.tmp 36) 75 rfl w.heap.size 9 i9 (.string ⟨#[]⟩) 1 16 (by kernel_rfl) hi hz0 HI.out hz2 rfl (by decide) _ _ _ rfl (HN3.out.2.2.1.1.alloc _) ⟨w3.heap.size, 0, none⟩ 1 1 [.string (S (regL x.r))] rfl rfl ?a1 ?a2 ?a3 ?a4 ?a5 ?_)
        case a1 => exact cell_one_new _ _ _
        case a2 => simp [Value.oneCell']
        case a3 => unfold maxLen; omega
        case a4 => omega
        case a5 => have := HN3.out.2.2.2.1.size; simp; omega
        intro v' w4 hown' hg _ hat
        have HA : Hid (LtAt w w4 q it s x (k + 1) v' (nameL x.op :: (s.data.toList.take (k + 1)).map (fieldL x))) := Lib.hid (by rw [HSN.out, show fieldL x 114 = (regL x.r) from rfl]; exact HN3.out.app hown' hg hat)
        clear hown' hg hat
        go_wp2_with fail
        exact ⟨⟨k + 1, by omega, HA⟩, by have e1 := HA.out.pos; have e2 := HR.out.pos; omega⟩
      · have hn := fun ty => next_lit hlt HR.out.2.1 HC.out (by decide) 97 rfl ty
        rw [← HW.out] at hn
        obtain ⟨p0, p1, p2, p3, p4, p5⟩ := BoxI.cells HN.out.1
        go_wp2_with fail
        refine (reg_any x.a w2 (HFN.out.rg.2 HMEM.out) HE2.out).mono ?_
        rintro e w3 ⟨rfl, hb3⟩
        have HN3 := Lib.hid (HN.out.next hb3)
        clear hb3 p0 p1 p2 p3 p4 p5 hn
        have hsz : it < w3.heap.size := (Array.getElem?_eq_some_iff.1 HN3.out.2.1).1
        go_wp2_with (at_builtin; refine wpList_append_own_at _ rfl (.tmp 40) (.tmp 44) 75 rfl w.heap.size 9 i9 (.string ⟨#[]⟩) 1 16 (by kernel_rfl) hi hz0 HI.out hz2 rfl (by decide) _ _ _ rfl (HN3.out.2.2.1.1.alloc _) ⟨w3.heap.size, 0, none⟩ 1 1 [.string (S (regL x.a))] rfl rfl ?b1 ?b2 ?b3 ?b4 ?b5 ?_)
        case b1 => exact cell_one_new _ _ _
        case b2 => simp [Value.oneCell']
        case b3 => unfold maxLen; omega
        case b4 => omega
        case b5 => have := HN3.out.2.2.2.1.size; simp; omega
        intro v' w4 hown' hg _ hat
        have HA : Hid (LtAt w w4 q it s x (k + 1) v' (nameL x.op :: (s.data.toList.take (k + 1)).map (fieldL x))) := Lib.hid (by rw [HSN.out, show fieldL x 97 = (regL x.a) from rfl]; exact HN3.out.app hown' hg hat)
        clear hown' hg hat
        go_wp2_with fail
        exact ⟨⟨k + 1, by omega, HA⟩, by have e1 := HA.out.pos; have e2 := HR.out.pos; omega⟩
      · have hn := fun ty => next_lit hlt HR.out.2.1 HC.out (by decide) 110 rfl ty
        rw [← HW.out] at hn
        obtain ⟨p0, p1, p2, p3, p4, p5⟩ := BoxI.cells HN.out.1
        go_wp2_with fail
        refine (fmt_any x.n w2 HNR.out HE2.out).mono ?_
        rintro e w3 ⟨rfl, hb3⟩
        have HN3 := Lib.hid (HN.out.next hb3)
        clear hb3 p0 p1 p2 p3 p4 p5 hn
        have hsz : it < w3.heap.size := (Array.getElem?_eq_some_iff.1 HN3.out.2.1).1
        go_wp2_with (at_builtin; refine wpList_append_own_at _ rfl (.tmp 24) (.tmp 28) 75 rfl w.heap.size 9 i9 (.string ⟨#[]⟩) 1 16 (by kernel_rfl) hi hz0 HI.out hz2 rfl (by decide) _ _ _ rfl (HN3.out.2.2.1.1.alloc _) ⟨w3.heap.size, 0, none⟩ 1 1 [.string (S (numL x.n))] rfl rfl ?c1 ?c2 ?c3 ?c4 ?c5 ?_)
        case c1 => exact cell_one_new _ _ _
        case c2 => simp [Value.oneCell']
        case c3 => unfold maxLen; omega
        case c4 => omega
        case c5 => have := HN3.out.2.2.2.1.size; simp; omega
        intro v' w4 hown' hg _ hat
        have HA : Hid (LtAt w w4 q it s x (k + 1) v' (nameL x.op :: (s.data.toList.take (k + 1)).map (fieldL x))) := Lib.hid (by rw [HSN.out, show fieldL x 110 = (numL x.n) from rfl]; exact HN3.out.app hown' hg hat)
        clear hown' hg hat
        go_wp2_with fail
        exact ⟨⟨k + 1, by omega, HA⟩, by have e1 := HA.out.pos; have e2 := HR.out.pos; omega⟩
      · have hn := fun ty => next_lit hlt HR.out.2.1 HC.out (by decide) 118 rfl ty
        rw [← HW.out] at hn
        obtain ⟨p0, p1, p2, p3, p4, p5⟩ := BoxI.cells HN.out.1
        go_wp2_with fail
        refine (fmt_any x.n w2 HNR.out HE2.out).mono ?_
        rintro e w3 ⟨rfl, hb3⟩
        have HN3 := Lib.hid (HN.out.next hb3)
        clear hb3 p0 p1 p2 p3 p4 p5 hn
        have hsz : it < w3.heap.size := (Array.getElem?_eq_some_iff.1 HN3.out.2.1).1
        go_wp2_with (at_builtin; refine wpList_append_own_at _ rfl (.tmp 24) (.tmp 28) 75 rfl w.heap.size 9 i9 (.string ⟨#[]⟩) 1 16 (by kernel_rfl) hi hz0 HI.out hz2 rfl (by decide) _ _ _ rfl (HN3.out.2.2.1.1.alloc _) ⟨w3.heap.size, 0, none⟩ 1 1 [.string (S (numL x.n))] rfl rfl ?d1 ?d2 ?d3 ?d4 ?d5 ?_)
        case d1 => exact cell_one_new _ _ _
        case d2 => simp [Value.oneCell']
        case d3 => unfold maxLen; omega
        case d4 => omega
        case d5 => have := HN3.out.2.2.2.1.size; simp; omega
        intro v' w4 hown' hg _ hat
        have HA : Hid (LtAt w w4 q it s x (k + 1) v' (nameL x.op :: (s.data.toList.take (k + 1)).map (fieldL x))) := Lib.hid (by rw [HSN.out, show fieldL x 118 = (numL x.n) from rfl]; exact HN3.out.app hown' hg hat)
        clear hown' hg hat
        go_wp2_with fail
        exact ⟨⟨k + 1, by omega, HA⟩, by have e1 := HA.out.pos; have e2 := HR.out.pos; omega⟩
      · have hn := fun ty => next_lit hlt HR.out.2.1 HC.out (by decide) 99 rfl ty
        rw [← HW.out] at hn
        obtain ⟨p0, p1, p2, p3, p4, p5⟩ := BoxI.cells HN.out.1
        go_wp2_with fail
        refine (fmt_any x.n w2 HNR.out HE2.out).mono ?_
        rintro e w3 ⟨rfl, hb3⟩
        have HN3 := Lib.hid (HN.out.next hb3)
        clear hb3 p0 p1 p2 p3 p4 p5 hn
        have hsz : it < w3.heap.size := (Array.getElem?_eq_some_iff.1 HN3.out.2.1).1
        go_wp2_with (at_builtin; refine wpList_append_own_at _ rfl (.tmp 24) (.tmp 28) 75 rfl w.heap.size 9 i9 (.string ⟨#[]⟩) 1 16 (by kernel_rfl) hi hz0 HI.out hz2 rfl (by decide) _ _ _ rfl (HN3.out.2.2.1.1.alloc _) ⟨w3.heap.size, 0, none⟩ 1 1 [.string (S (numL x.n))] rfl rfl ?e1 ?e2 ?e3 ?e4 ?e5 ?_)
        case e1 => exact cell_one_new _ _ _
        case e2 => simp [Value.oneCell']
        case e3 => unfold maxLen; omega
        case e4 => omega
        case e5 => have := HN3.out.2.2.2.1.size; simp; omega
        intro v' w4 hown' hg _ hat
        have HA : Hid (LtAt w w4 q it s x (k + 1) v' (nameL x.op :: (s.data.toList.take (k + 1)).map (fieldL x))) := Lib.hid (by rw [HSN.out, show fieldL x 99 = (numL x.n) from rfl]; exact HN3.out.app hown' hg hat)
        clear hown' hg hat
        go_wp2_with fail
        exact ⟨⟨k + 1, by omega, HA⟩, by have e1 := HA.out.pos; have e2 := HR.out.pos; omega⟩
      · have hn := fun ty => next_lit hlt HR.out.2.1 HC.out (by decide) 115 rfl ty
        rw [← HW.out] at hn
        obtain ⟨p0, p1, p2, p3, p4, p5⟩ := BoxI.cells HN.out.1
        go_wp2_with fail
        refine (quote_any x.nm w2 HNB.out).mono ?_
        rintro e w3 ⟨rfl, hb3⟩
        have HN3 := Lib.hid (HN.out.next hb3)
        clear hb3 p0 p1 p2 p3 p4 p5 hn
        have hsz : it < w3.heap.size := (Array.getElem?_eq_some_iff.1 HN3.out.2.1).1
        go_wp2_with (at_builtin; refine wpList_append_own_at _ rfl (.tmp 48) (.tmp 52) 75 rfl w.heap.size 9 i9 (.string ⟨#[]⟩) 1 16 (by kernel_rfl) hi hz0 HI.out hz2 rfl (by decide) _ _ _ rfl (HN3.out.2.2.1.1.alloc _) ⟨w3.heap.size, 0, none⟩ 1 1 [.string (S (quoteL x.nm.data.toList))] rfl rfl ?f1 ?f2 ?f3 ?f4 ?f5 ?_)
        case f1 => exact cell_one_new _ _ _
        case f2 => simp [Value.oneCell']
        case f3 => unfold maxLen; omega
        case f4 => omega
        case f5 => have := HN3.out.2.2.2.1.size; simp; omega
        intro v' w4 hown' hg _ hat
        have HA : Hid (LtAt w w4 q it s x (k + 1) v' (nameL x.op :: (s.data.toList.take (k + 1)).map (fieldL x))) := Lib.hid (by rw [HSN.out, show fieldL x 115 = (quoteL x.nm.data.toList) from rfl]; exact HN3.out.app hown' hg hat)
        clear hown' hg hat
        go_wp2_with fail
        exact ⟨⟨k + 1, by omega, HA⟩, by have e1 := HA.out.pos; have e2 := HR.out.pos; omega⟩
      · have hn := fun ty => next_lit hlt HR.out.2.1 HC.out (by decide) 102 rfl ty
        rw [← HW.out] at hn
        obtain ⟨p0, p1, p2, p3, p4, p5⟩ := BoxI.cells HN.out.1
        go_wp2_with fail
        refine (functor_any x.nm x.ar w2 HNM.out HAR.out HE2.out).mono ?_
        rintro e w3 ⟨rfl, hb3⟩
        have HN3 := Lib.hid (HN.out.next hb3)
        clear hb3 p0 p1 p2 p3 p4 p5 hn
        have hsz : it < w3.heap.size := (Array.getElem?_eq_some_iff.1 HN3.out.2.1).1
        go_wp2_with (at_builtin; refine wpList_append_own_at _ rfl (.tmp 56) (.tmp 62) 75 rfl w.heap.size 9 i9 (.string ⟨#[]⟩) 1 16 (by kernel_rfl) hi hz0 HI.out hz2 rfl (by decide) _ _ _ rfl (HN3.out.2.2.1.1.alloc _) ⟨w3.heap.size, 0, none⟩ 1 1 [.string (S (funL x.nm.data.toList x.ar))] rfl rfl ?g1 ?g2 ?g3 ?g4 ?g5 ?_)
        case g1 => exact cell_one_new _ _ _
        case g2 => simp [Value.oneCell']
        case g3 => unfold maxLen; omega
        case g4 => omega
        case g5 => have := HN3.out.2.2.2.1.size; simp; omega
        intro v' w4 hown' hg _ hat
        have HA : Hid (LtAt w w4 q it s x (k + 1) v' (nameL x.op :: (s.data.toList.take (k + 1)).map (fieldL x))) := Lib.hid (by rw [HSN.out, show fieldL x 102 = (funL x.nm.data.toList x.ar) from rfl]; exact HN3.out.app hown' hg hat)
        clear hown' hg hat
        go_wp2_with fail
        exact ⟨⟨k + 1, by omega, HA⟩, by have e1 := HA.out.pos; have e2 := HR.out.pos; omega⟩
      · have hn := fun ty => next_lit hlt HR.out.2.1 HC.out (by decide) 112 rfl ty
        rw [← HW.out] at hn
        obtain ⟨p0, p1, p2, p3, p4, p5⟩ := BoxI.cells HN.out.1
        go_wp2_with fail
        refine (predText_any x.nm x.ar x.n w2 HNM.out HAR.out HNR.out HE2.out).mono ?_
        rintro e w3 ⟨rfl, hb3⟩
        have HN3 := Lib.hid (HN.out.next hb3)
        clear hb3 p0 p1 p2 p3 p4 p5 hn
        have hsz : it < w3.heap.size := (Array.getElem?_eq_some_iff.1 HN3.out.2.1).1
        go_wp2_with (at_builtin; refine wpList_append_own_at _ rfl (.tmp 66) (.tmp 75) 75 rfl w.heap.size 9 i9 (.string ⟨#[]⟩) 1 16 (by kernel_rfl) hi hz0 HI.out hz2 rfl (by decide) _ _ _ rfl (HN3.out.2.2.1.1.alloc _) ⟨w3.heap.size, 0, none⟩ 1 1 [.string (S (predL x.nm.data.toList x.ar x.n))] rfl rfl ?h1 ?h2 ?h3 ?h4 ?h5 ?_)
        case h1 => exact cell_one_new _ _ _
        case h2 => simp [Value.oneCell']
        case h3 => unfold maxLen; omega
        case h4 => omega
        case h5 => have := HN3.out.2.2.2.1.size; simp; omega
        intro v' w4 hown' hg _ hat
        have HA : Hid (LtAt w w4 q it s x (k + 1) v' (nameL x.op :: (s.data.toList.take (k + 1)).map (fieldL x))) := Lib.hid (by rw [HSN.out, show fieldL x 112 = (predL x.nm.data.toList x.ar x.n) from rfl]; exact HN3.out.app hown' hg hat)
        clear hown' hg hat
        go_wp2_with fail
        exact ⟨⟨k + 1, by omega, HA⟩, by have e1 := HA.out.pos; have e2 := HR.out.pos; omega⟩
    · have hn := fun ty => Lib.run_next_end_at (P := Tryz.prog) wr it s k ty HR.out.2.1 hlt
      have HLJ := Lib.hid (show lineL x = Lib.join l [32] by rw [line_join, ← HL.out, HFL.out, List.take_of_length_le (by have : s.data.toList.length = s.size := Array.length_toList; omega)])
      have HLL := Lib.hid (show (Lib.join l [32]).length ≤ 140737488355328 by rw [← HLJ.out]; have := line_len HF.out HNR.out; omega)
      have hl1 : 0 < l.length := by rw [← HL.out]; simp
      obtain ⟨g, cap, rfl⟩ := own_some2 HR.out.2.2.1.1 hl1
      have hcp : l.length ≤ cap := by
        rcases HR.out.2.2.1.1.2 with ⟨e, _⟩ | ⟨g', c', cur, e, _, _, h3, _⟩
        · cases e
        · injection e with _ _ e3
          subst e3
          exact h3
      have hgl := (own_lt HR.out.2.2.1.1 (g := g) rfl).2
      have hcells : ∀ (j : Nat) (y : ByteArray), (l.map S)[j]? = some y → wr.cell? ⟨g, 0 + j, none⟩ = some (.string y) := by
        intro j y hy
        have hj : j < l.length := by have := (List.getElem?_eq_some_iff.1 hy).1; simpa using this
        have hc := HR.out.2.2.1.1.cellAt (g := g) j (by omega)
        rw [Nat.zero_add, hc]
        unfold sCs
        rw [List.getElem?_map] at hy ⊢
        cases hz : l[j]? with
        | none => rw [hz] at hy; cases hy
        | some t => rw [hz] at hy; injection hy with hy; rw [← hy]; rfl
      have hmap : (l.map S).map (·.data.toList) = l := by rw [List.map_map]; exact (List.map_congr_left (fun t _ => S_list t)).trans (List.map_id _)
      have hj := Tryz.strings_Join g 0 cap (l.map S) ⟨#[32]⟩ wr hcells hgl (by simp; omega) (by simpa using hcp) (by rw [hmap]; exact HLL.out)
      rw [hmap, List.length_map] at hj
      have HJ := Lib.hid hj
      have HBW := Lib.hid HR.out.2.2.2.1
      clear hj hcells hmap hgl hcp hll hl1 HR HLL HL
      obtain ⟨m, hm⟩ : ∃ m, Hid (m = l.length) := ⟨_, rfl⟩
      rw [← hm.out] at HJ ⊢
      go_wp2_with fail
      refine HJ.out.mono ?_
      rintro e w3 ⟨rfl, hb3⟩
      have HB3 := Lib.hid (bNext HBW.out hb3)
      clear hb3 hn
      go_wp2_with fail
      go_ret
      exact ⟨ret_str (by rw [HLJ.out]; rfl), HB3.out⟩
end
end Go.Proofs.YtbipeakinmbdiaaGreatDoor
