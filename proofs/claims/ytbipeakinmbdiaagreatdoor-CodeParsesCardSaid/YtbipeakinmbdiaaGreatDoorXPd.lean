/-
  Walk: Parse (the reference).
-/
import Derived.Test.YtbipeakinmbdiaaGreatDoorXPc
import Derived.Test.YtbipeakinmbdiaaGreatDoorXLg
import Derived.Test.YtbipeakinmbdiaaGreatDoorKy
import Derived.Test.YtbipeakinmbdiaaGreatDoorKx
namespace Go.Proofs.YtbipeakinmbdiaaGreatDoor
open Go.RowKit

theorem lit_in1 (w : World) (x : In) : InsAt (w.alloc (.cells #[.int .i64 x.op, .int .i64 x.r, .int .i64 x.a, .int .i64 x.n, .string x.nm, .int .i64 x.ar] 34)) (w.heap.size + 1) (some ⟨w.heap.size, 0, none⟩) 1 [x] := by
  refine ⟨⟨rfl, by omega⟩, fun _ => ⟨w.heap.size, 0, rfl, by omega, fun i y hy => ?_⟩⟩
  have h := BoxI.new w x
  match i, hy with
  | 0, hy => injection hy with hy; subst hy; exact ⟨Blk.cell h 0, Blk.cell h 1, Blk.cell h 2, Blk.cell h 3, Blk.cell h 4, Blk.cell h 5⟩
theorem flat_len (ls : List (List UInt8)) : ls.length ≤ (ls.flatMap (· ++ [10])).length := by
  induction ls with
  | nil => exact Nat.le_refl _
  | cons l ls ih => rw [List.flatMap_cons, List.length_append, List.length_cons, List.length_append, List.length_singleton]; omega
theorem LnAt.len {t : List UInt8} {i : Nat} {ls : List (List UInt8)} {cur : List UInt8} {b : Bk} (h : LnAt t i ls cur b) : (ls.flatMap (· ++ [10])).length + cur.length = i ∧ ls.length ≤ i := by
  obtain ⟨⟨h1, h0⟩, _, _⟩ := h
  have e := congrArg List.length h1
  rw [List.length_take, List.length_append] at e
  have := flat_len ls
  omega
/-- the line that is under way stands in the text -/
theorem LnAt.cur {t : List UInt8} {i f : Nat} {ls : List (List UInt8)} {cur : List UInt8} {b : Bk} (h : LnAt t i ls cur b) (hf : f + cur.length = i) : (S t).extract f i = S cur := by
  have hl := h.len
  obtain ⟨⟨h1, h0⟩, _, _⟩ := h
  rw [ext_mid]
  have e : (t.drop f).take (i - f) = (t.take i).drop f := by rw [List.drop_take]
  rw [e, h1, List.drop_left' (by omega)]
theorem LnAt.rest {t : List UInt8} {f : Nat} {ls : List (List UInt8)} {cur : List UInt8} {b : Bk} (_h : LnAt t t.length ls cur b) (hf : f + cur.length = t.length) : (f < t.length ↔ cur ≠ []) := by
  cases cur with
  | nil => simp at hf ⊢; omega
  | cons a c => simp at hf ⊢; omega
/-- how many instructions there are -/
theorem LnAt.code {t : List UInt8} {i : Nat} {ls : List (List UInt8)} {cur : List UInt8} {b : Bk} (h : LnAt t i ls cur b) : b.code.length ≤ ls.length ∧ (ls.length = 0 → b = zBk ∧ ls = []) := by
  obtain ⟨_, _, h4⟩ := h
  cases ls with
  | nil =>
    injection h4 with h4
    subst h4
    exact ⟨Nat.le_refl _, fun _ => ⟨rfl, rfl⟩⟩
  | cons s r =>
    rw [goP_cons, if_pos rfl] at h4
    cases hh : headP s with
    | none => rw [hh] at h4; cases h4
    | some b0 =>
      rw [hh] at h4
      obtain ⟨xs, e1, e2, _⟩ := goP_len r 1 b0 b (by omega) h4
      have e0 := (headP_some hh).2.2.1
      refine ⟨?_, fun h => by simp at h⟩
      rw [e1, e0]
      simp
      omega
theorem own_word {w : World} {base g n cap k : Nat} {q : List (List UInt8)} {t : List UInt8} (h : w.ownsRow base 9 1 (.slice (some ⟨g, 0, none⟩) n cap) n (sCs q)) (hk : q[k]? = some t) : w.cell? ⟨g, k, none⟩ = some (.string (S t)) := by
  have hl : q.length = n := by have := h.1; unfold sCs at this; simpa using this
  rw [h.cellAt (g := g) k (by rw [Nat.mul_one, ← hl]; exact (List.getElem?_eq_some_iff.1 hk).1)]
  unfold sCs
  rw [List.getElem?_map, hk]
  rfl
theorem own_far {w : World} {base g n cap B i : Nat} {xs : List Value} {v : Value} (h : w.ownsRow base 9 1 (.slice (some ⟨g, 0, none⟩) n cap) n xs) (hg : B < g) : (w.setCell ⟨B, i, none⟩ v).ownsRow base 9 1 (.slice (some ⟨g, 0, none⟩) n cap) n xs :=
  ownsRow_setCell_other h (by show some g ≠ some B; intro e; injection e; omega) _
/-- where the walk of the reference's Parse stands -/
structure PrAt (w wr : World) (base R B : Nat) (b : Bk) (A : Option Addr) (c : Nat) : Prop where
  rs : Blk wr R 28 (bkC zBk none 0 0)
  bb : Blk wr B 28 (bkC b A b.code.length c)
  ow : wr.ownsRow base 34 6 (.slice A b.code.length c) b.code.length (aCs b.code)
  kp : Below w.heap.size w wr
  pl : (w.heap.size ≤ R ∧ R < B ∧ B < base) ∧ base ≤ wr.heap.size
section
variable {w wr w2 : World} {base R B : Nat} {b b' : Bk} {A : Option Addr} {c : Nat}
theorem PrAt.next (h : PrAt w wr base R B b A c) (hb : Below wr.heap.size wr w2) : PrAt w w2 base R B b A c := ⟨h.rs.next hb, h.bb.next hb, own_next h.ow hb, bNext h.kp hb, h.pl.1, Nat.le_trans h.pl.2 hb.size⟩
theorem PrAt.low (h : PrAt w wr base R B b A c) {g : Nat} (hg : (Value.slice A b.code.length c).ownBlock = some g) : base ≤ g ∧ g < wr.heap.size := own_lt h.ow hg
theorem PrAt.put (h : PrAt w wr base R B b A c) {i : Nat} {v : Value} (h2 : Blk (wr.setCell ⟨B, i, none⟩ v) B 28 (bkC b' A b.code.length c)) (hc : b'.code = b.code) : PrAt w (wr.setCell ⟨B, i, none⟩ v) base R B b' A c := by
  have hp := h.pl
  refine ⟨h.rs.far (by show R ≠ B; omega) _, by rw [hc]; exact h2, ?_, h.kp.setCell (by show w.heap.size ≤ B; omega) _, hp.1, by simpa using hp.2⟩
  rw [hc]
  exact ownsRow_setCell_other h.ow (fun e => by have h1 := (h.low e).1; have h2 : base ≤ B := h1; omega) _
end
set_option maxRecDepth 100000 in
set_option maxHeartbeats 4000000 in
theorem Parse_any (t : List UInt8) (w : World) : Calls Tryz.prog 26 #[.string (S t)] w (PsR w t) := by
  have hz : (S t).size = t.length := S_size t
  obtain ⟨R, hR⟩ : ∃ X, Hid (X = w.heap.size) := ⟨_, rfl⟩
  obtain ⟨w1, hw1⟩ : ∃ X, Hid (X = w.alloc (.cells (bkC zBk none 0 0) 28)) := ⟨_, rfl⟩
  have HR1 := Lib.hid (show Blk w1 R 28 (bkC zBk none 0 0) by rw [hw1.out, hR.out]; exact Blk.new _ _ _)
  have HK1 := Lib.hid (show Below w.heap.size w w1 by rw [hw1.out]; exact bAlloc _ _)
  have HRL := Lib.hid (show w.heap.size ≤ R by rw [hR.out]; exact Nat.le_refl _)
  by_cases hlen : 16384 < t.length
  · have hl0 : decide ((16384 : Int) < (t.length : Int)) = true := decide_eq_true (by omega)
    have HQ := Lib.hid (show parseV t = (zBk, 0, 2) by unfold parseV; rw [if_pos hlen])
    clear hlen
    go_enter Tryz.func26, Tryz.ntmps26
    go_upto_region 1 with fail
    rw [← hw1.out, ← hR.out]
    have r0 := HR1.out.cell 0
    have r1 := HR1.out.cell 1
    have r2 := HR1.out.cell 2
    have r3 := HR1.out.cell 3
    have r4 := HR1.out.cell 4
    have r5 := HR1.out.cell 5
    have r6 := HR1.out.cell 6
    have r7 := HR1.out.cell 7
    have r8 := HR1.out.cell 8
    have f0 := HR1.out.frozen 0
    have f1 := HR1.out.frozen 1
    have f2 := HR1.out.frozen 2
    have f3 := HR1.out.frozen 3
    have f4 := HR1.out.frozen 4
    have f5 := HR1.out.frozen 5
    have f6 := HR1.out.frozen 6
    have f7 := HR1.out.frozen 7
    have f8 := HR1.out.frozen 8
    have rl := HR1.out.lt
    simp at r0 r1 r2 r3 r4 r5 r6 r7 r8
    go_wp2_with fail
    obtain ⟨X, hX⟩ : ∃ X, Hid (X = ((((((((w1.setCell ⟨R, 0, none⟩ (.int .i64 0)).setCell ⟨R, 1, none⟩ (.string ⟨#[]⟩)).setCell ⟨R, 2, none⟩ (.int .i64 0)).setCell ⟨R, 3, none⟩ (.int .i64 0)).setCell ⟨R, 4, none⟩ (.int .i64 0)).setCell ⟨R, 5, none⟩ (.int .i64 0)).setCell ⟨R, 6, none⟩ (.string ⟨#[]⟩)).setCell ⟨R, 7, none⟩ (.int .i64 0)).setCell ⟨R, 8, none⟩ (.slice none 0 0)) := ⟨_, rfl⟩
    rw [← hX.out]
    clear r0 r1 r2 r3 r4 r5 r6 r7 r8 f0 f1 f2 f3 f4 f5 f6 f7 f8 rl
    have HXR := Lib.hid (show Blk X R 28 (bkC zBk none 0 0) by
      rw [hX.out]
      exact ((((((((HR1.out.set_ 0 (.int .i64 0)).set_ 1 (.string ⟨#[]⟩)).set_ 2 (.int .i64 0)).set_ 3 (.int .i64 0)).set_ 4 (.int .i64 0)).set_ 5 (.int .i64 0)).set_ 6 (.string ⟨#[]⟩)).set_ 7 (.int .i64 0)).set_ 8 (.slice none 0 0))
    have HXK := Lib.hid (show Below w.heap.size w X by
      have hh := HRL.out
      rw [hX.out]
      exact ((((((((HK1.out.setCell hh _).setCell hh _).setCell hh _).setCell hh _).setCell hh _).setCell hh _).setCell hh _).setCell hh _).setCell hh _)
    clear hX
    have r0 := HXR.out.cell 0
    have r1 := HXR.out.cell 1
    have r2 := HXR.out.cell 2
    have r3 := HXR.out.cell 3
    have r4 := HXR.out.cell 4
    have r5 := HXR.out.cell 5
    have r6 := HXR.out.cell 6
    have r7 := HXR.out.cell 7
    have r8 := HXR.out.cell 8
    have f0 := HXR.out.frozen 0
    have f1 := HXR.out.frozen 1
    have f2 := HXR.out.frozen 2
    have f3 := HXR.out.frozen 3
    have f4 := HXR.out.frozen 4
    have f5 := HXR.out.frozen 5
    have f6 := HXR.out.frozen 6
    have f7 := HXR.out.frozen 7
    have f8 := HXR.out.frozen 8
    have rl := HXR.out.lt
    simp at r0 r1 r2 r3 r4 r5 r6 r7 r8
    refine bodyPost_ret (v := .tuple #[.agg (bkC zBk none 0 0), .int .i64 0, .int .i64 2]) (by simp only [results, Tryz.results26]; go_simp) rfl ?_
    exact ⟨none, 0, 0, by rw [HQ.out]; rfl, by rw [HQ.out]; rfl, by rw [HQ.out]; exact World.ownsRow_nil _ _ _ _, HXK.out⟩
  · have hl0 : decide ((16384 : Int) < (t.length : Int)) = false := decide_eq_false (by omega)
    have HTL := Lib.hid (show t.length ≤ 16384 by omega)
    clear hlen
    obtain ⟨B, hB⟩ : ∃ X, Hid (X = w1.heap.size) := ⟨_, rfl⟩
    obtain ⟨w2, hw2⟩ : ∃ X, Hid (X = w1.alloc (.cells (bkC zBk none 0 0) 28)) := ⟨_, rfl⟩
    obtain ⟨base, hbase⟩ : ∃ X, Hid (X = w2.heap.size) := ⟨_, rfl⟩
    have H2 := Lib.hid (show PrAt w w2 base R B zBk none 0 by
      have h1 := HR1.out.lt
      have h2 := HRL.out
      have h3 : w2.heap.size = w1.heap.size + 1 := by rw [hw2.out]; simp
      refine ⟨by rw [hw2.out]; exact HR1.out.alloc _, by rw [hw2.out, hB.out]; exact Blk.new _ _ _, World.ownsRow_nil _ _ _ _, by rw [hw2.out]; exact bNext HK1.out (bAlloc _ _), ⟨h2, by rw [hB.out]; exact h1, by rw [hB.out, hbase.out]; omega⟩, Nat.le_of_eq hbase.out⟩)
    go_enter Tryz.func26, Tryz.ntmps26
    go_upto_region 1 with fail
    rw [← hw1.out, ← hR.out]
    go_upto_region 4 with fail
    rw [show w1.alloc (.cells #[.int .i64 0, .string ⟨#[]⟩, .int .i64 0, .int .i64 0, .int .i64 0, .int .i64 0, .string ⟨#[]⟩, .int .i64 0, .slice none 0 0] 28) = w2 from hw2.out.symm, ← hB.out]
    clear hw1 hR HR1 HK1 hw2 hB hbase hl0
    go_wp2_with fail
    go_loopw [6, 7, 8] (fun fr ln i wr => ∃ (j f n : Nat) (ls : List (List UInt8)) (cur : List UInt8) (b : Bk) (A : Option Addr) (c : Nat), (fr = .int .i64 (f : Int) ∧ ln = .int .i64 (n : Int) ∧ i = .int .i64 (j : Int)) ∧ (f + cur.length = j ∧ j ≤ t.length) ∧ Hid (ls.length = n ∧ LnAt t j ls cur b) ∧ Hid (PrAt w wr base R B b A c)) (fun _ _ i _ => t.length - (intOf i).toNat)
    case atStart => exact ⟨0, 0, 0, [], [], zBk, none, 0, ⟨rfl, rfl, rfl⟩, ⟨rfl, Nat.zero_le _⟩, Lib.hid ⟨rfl, LnAt.start t⟩, H2⟩
    case round =>
      obtain ⟨j, f, n, ls, cur, b, A, c, ⟨rfl, rfl, rfl⟩, ⟨hfj, hjt⟩, HL, HP⟩ := hrel
      have hn16 : n ≤ 16384 := by have h1 := HL.out.2.len.2; have h2 := HL.out.1; have h3 := HTL.out; omega
      have HCL := Lib.hid (show cur.length ≤ 16384 by have h3 := HTL.out; omega)
      have hj16 : j ≤ 16384 := by have h3 := HTL.out; omega
      by_cases hlt : j < t.length
      · have hlj : decide ((j : Int) < (t.length : Int)) = true := decide_eq_true (by omega)
        have hlt2 : j < (S t).size := by omega
        have hget := S_get hlt2
        obtain ⟨z, hzb⟩ : ∃ z, ((((S t)[j]'hlt2).toNat : Int) == 10) = z := ⟨_, rfl⟩
        have e0 : ((((S t)[j]'hlt2).toNat : Int) == 10) = ((S t)[j]'hlt2 == 10) := u8_eq _ 10 (by omega)
        have HG := Lib.hid (And.intro hget (e0.symm.trans hzb))
        clear hget e0
        have HFJ := Lib.hid hfj
        cases z
        · have HQ := Lib.hid (HL.out.2.byte HG.out.1 (by have := HG.out.2; simpa using this))
          go_wp2_with fail
          exact ⟨⟨j + 1, f, n, ls, cur ++ [_], b, A, c, ⟨rfl, rfl, by go_num⟩, ⟨by rw [List.length_append]; simp; omega, by omega⟩, Lib.hid ⟨HL.out.1, HQ.out⟩, HP⟩, by simp only [intOf]; omega⟩
        · have HT10 := Lib.hid (show t[j]? = some 10 by rw [HG.out.1]; congr 1; exact eq_of_beq HG.out.2)
          have HCUR := Lib.hid (HL.out.2.cur hfj)
          have hfl : f ≤ j := by omega
          have hw1 : IntKind.wrap .i64 ((n : Int) + 1) = (n : Int) + 1 := wrapI (by omega)
          have hw2 : IntKind.wrap .i64 ((j : Int) + 1) = (j : Int) + 1 := wrapI (by omega)
          by_cases hn0 : n = 0
          · subst hn0
            obtain ⟨hb0, hls0⟩ := HL.out.2.code.2 HL.out.1
            subst hb0 hls0
            go_wp2_with fail
            rw [HCUR.out]
            refine (parts_any cur wr (by have := HCL.out; omega)).mono ?_
            rintro e w3 ⟨v, rfl, ho, hb⟩
            obtain ⟨q, hq⟩ : ∃ q, Hid (q = ptP cur) := ⟨_, rfl⟩
            rw [← hq.out] at ho
            have HQ1 := Lib.hid (show 1 ≤ q.length by
              rw [hq.out]
              unfold ptP
              rw [List.length_append, List.length_singleton]
              omega)
            obtain ⟨g, cap, rfl⟩ := own_some2 ho HQ1.out
            have HGB := Lib.hid (show B < g by have h1 := (own_lt ho (g := g) rfl).1; have h2 := HP.out.bb.lt; omega)
            have HP3 := Lib.hid (HP.out.next hb)
            have HO3 := Lib.hid ho
            obtain ⟨base2, hbase2⟩ : ∃ X, X = wr.heap.size := ⟨_, rfl⟩
            rw [← hbase2] at HO3
            clear hb ho HP hbase2
            obtain ⟨u, hu⟩ : ∃ u, ((q.length : Int) == 4) = u := ⟨_, rfl⟩
            cases u
            · have hu2 : ((q.length : Int) != 4) = true := by rw [bne, hu]; rfl
              have HQ := Lib.hid (show parseV t = (zBk, 1, 3) from LnAt.fail (k := 1) HL.out.2 HTL.out HT10.out (by
                show goP [cur] 0 zBk = _
                rw [goP_cons, if_pos rfl, th_head, if_neg]
                rintro ⟨⟨h1, _⟩, _⟩
                rw [← hq.out] at h1
                rw [h1] at hu
                cases hu))
              have HR3 := Lib.hid HP3.out.rs
              have HK3 := Lib.hid HP3.out.kp
              have r0 := HR3.out.cell 0
              have r1 := HR3.out.cell 1
              have r2 := HR3.out.cell 2
              have r3 := HR3.out.cell 3
              have r4 := HR3.out.cell 4
              have r5 := HR3.out.cell 5
              have r6 := HR3.out.cell 6
              have r7 := HR3.out.cell 7
              have r8 := HR3.out.cell 8
              have f0 := HR3.out.frozen 0
              have f1 := HR3.out.frozen 1
              have f2 := HR3.out.frozen 2
              have f3 := HR3.out.frozen 3
              have f4 := HR3.out.frozen 4
              have f5 := HR3.out.frozen 5
              have f6 := HR3.out.frozen 6
              have f7 := HR3.out.frozen 7
              have f8 := HR3.out.frozen 8
              have rl := HR3.out.lt
              simp at r0 r1 r2 r3 r4 r5 r6 r7 r8
              go_wp2_with fail
              obtain ⟨X, hX⟩ : ∃ X, Hid (X = ((((((((w3.setCell ⟨R, 0, none⟩ (.int .i64 0)).setCell ⟨R, 1, none⟩ (.string ⟨#[]⟩)).setCell ⟨R, 2, none⟩ (.int .i64 0)).setCell ⟨R, 3, none⟩ (.int .i64 0)).setCell ⟨R, 4, none⟩ (.int .i64 0)).setCell ⟨R, 5, none⟩ (.int .i64 0)).setCell ⟨R, 6, none⟩ (.string ⟨#[]⟩)).setCell ⟨R, 7, none⟩ (.int .i64 0)).setCell ⟨R, 8, none⟩ (.slice none 0 0)) := ⟨_, rfl⟩
              rw [← hX.out]
              clear r0 r1 r2 r3 r4 r5 r6 r7 r8 f0 f1 f2 f3 f4 f5 f6 f7 f8 rl
              have HXR := Lib.hid (show Blk X R 28 (bkC zBk none 0 0) by
                rw [hX.out]
                exact ((((((((HR3.out.set_ 0 (.int .i64 0)).set_ 1 (.string ⟨#[]⟩)).set_ 2 (.int .i64 0)).set_ 3 (.int .i64 0)).set_ 4 (.int .i64 0)).set_ 5 (.int .i64 0)).set_ 6 (.string ⟨#[]⟩)).set_ 7 (.int .i64 0)).set_ 8 (.slice none 0 0))
              have HXK := Lib.hid (show Below w.heap.size w X by
                have hh := HRL.out
                rw [hX.out]
                exact ((((((((HK3.out.setCell hh _).setCell hh _).setCell hh _).setCell hh _).setCell hh _).setCell hh _).setCell hh _).setCell hh _).setCell hh _)
              clear hX
              have r0 := HXR.out.cell 0
              have r1 := HXR.out.cell 1
              have r2 := HXR.out.cell 2
              have r3 := HXR.out.cell 3
              have r4 := HXR.out.cell 4
              have r5 := HXR.out.cell 5
              have r6 := HXR.out.cell 6
              have r7 := HXR.out.cell 7
              have r8 := HXR.out.cell 8
              have f0 := HXR.out.frozen 0
              have f1 := HXR.out.frozen 1
              have f2 := HXR.out.frozen 2
              have f3 := HXR.out.frozen 3
              have f4 := HXR.out.frozen 4
              have f5 := HXR.out.frozen 5
              have f6 := HXR.out.frozen 6
              have f7 := HXR.out.frozen 7
              have f8 := HXR.out.frozen 8
              have rl := HXR.out.lt
              simp at r0 r1 r2 r3 r4 r5 r6 r7 r8
              refine bodyPost_ret (v := .tuple #[.agg (bkC zBk none 0 0), .int .i64 1, .int .i64 3]) (by simp only [results, Tryz.results26]; go_simp) rfl ?_
              exact ⟨none, 0, 0, by rw [HQ.out]; rfl, by rw [HQ.out]; rfl, by rw [HQ.out]; exact World.ownsRow_nil _ _ _ _, HXK.out⟩
            · have hu2 : ((q.length : Int) != 4) = false := by rw [bne, hu]; rfl
              have hq4 : q.length = 4 := by
                have h : (q.length : Int) = 4 := by simpa using hu
                omega
              obtain ⟨p0, p1, p2, p3, hqe⟩ : ∃ p0 p1 p2 p3, q = [p0, p1, p2, p3] := by
                match q, hq4 with
                | [a, b, c, d], _ => exact ⟨a, b, c, d, rfl⟩
              have HW := Lib.hid (show q[0]? = some p0 ∧ q[1]? = some p1 ∧ q[2]? = some p2 ∧ q[3]? = some p3 by rw [hqe]; exact ⟨rfl, rfl, rfl, rfl⟩)
              have HWL := Lib.hid (show p1.length ≤ 16384 ∧ p2.length ≤ 16384 ∧ p3.length ≤ 16384 by
                have key : ∀ x ∈ q, x.length ≤ 16384 := fun x hx => by
                  rw [hq.out] at hx
                  have h1 := pt_word_len cur x hx
                  have h2 := HCL.out
                  omega
                rw [hqe] at key
                exact ⟨key _ (by simp), key _ (by simp), key _ (by simp)⟩)
              have HTH := Lib.hid (show thB q = ⟨tnP p1, S (tpP p2).1, (tpP p2).2.1, (tpP p2).2.2, (tkP p3).1, (tkP p3).2.1, S (tkP p3).2.2.1, (tkP p3).2.2.2, []⟩ by rw [hqe]; rfl)
              have HEN := Lib.hid (show q.length = 4 ∧ q.headD [] = p0 by rw [hqe]; exact ⟨rfl, rfl⟩)
              rw [hq4] at HO3 hu hu2 ⊢
              clear hqe hq4 hu hu2
              have c0 := own_word HO3.out HW.out.1
              obtain ⟨z, hz0⟩ : ∃ z, ((S p0).toList == [98, 108, 111, 99, 107]) = z := ⟨_, rfl⟩
              have hzn : ((S p0).toList != [98, 108, 111, 99, 107]) = !z := by rw [bne, hz0]
              have HZ := Lib.hid (show decide (p0 = blockN) = z by rw [← hz0, ByteArray.toList_eq, S_list, Bool.eq_iff_iff, decide_eq_true_iff, beq_iff_eq]; rfl)
              cases z
              · have HQ := Lib.hid (show parseV t = (zBk, 1, 3) from LnAt.fail (k := 1) HL.out.2 HTL.out HT10.out (by
                  show goP [cur] 0 zBk = _
                  rw [goP_cons, if_pos rfl, th_head, if_neg]
                  rintro ⟨⟨_, h1⟩, _⟩
                  rw [← hq.out, HEN.out.2] at h1
                  exact of_decide_eq_false HZ.out h1))
                have HR3 := Lib.hid HP3.out.rs
                have HK3 := Lib.hid HP3.out.kp
                have r0 := HR3.out.cell 0
                have r1 := HR3.out.cell 1
                have r2 := HR3.out.cell 2
                have r3 := HR3.out.cell 3
                have r4 := HR3.out.cell 4
                have r5 := HR3.out.cell 5
                have r6 := HR3.out.cell 6
                have r7 := HR3.out.cell 7
                have r8 := HR3.out.cell 8
                have f0 := HR3.out.frozen 0
                have f1 := HR3.out.frozen 1
                have f2 := HR3.out.frozen 2
                have f3 := HR3.out.frozen 3
                have f4 := HR3.out.frozen 4
                have f5 := HR3.out.frozen 5
                have f6 := HR3.out.frozen 6
                have f7 := HR3.out.frozen 7
                have f8 := HR3.out.frozen 8
                have rl := HR3.out.lt
                simp at r0 r1 r2 r3 r4 r5 r6 r7 r8
                go_wp2_with fail
                obtain ⟨X, hX⟩ : ∃ X, Hid (X = ((((((((w3.setCell ⟨R, 0, none⟩ (.int .i64 0)).setCell ⟨R, 1, none⟩ (.string ⟨#[]⟩)).setCell ⟨R, 2, none⟩ (.int .i64 0)).setCell ⟨R, 3, none⟩ (.int .i64 0)).setCell ⟨R, 4, none⟩ (.int .i64 0)).setCell ⟨R, 5, none⟩ (.int .i64 0)).setCell ⟨R, 6, none⟩ (.string ⟨#[]⟩)).setCell ⟨R, 7, none⟩ (.int .i64 0)).setCell ⟨R, 8, none⟩ (.slice none 0 0)) := ⟨_, rfl⟩
                rw [← hX.out]
                clear r0 r1 r2 r3 r4 r5 r6 r7 r8 f0 f1 f2 f3 f4 f5 f6 f7 f8 rl
                have HXR := Lib.hid (show Blk X R 28 (bkC zBk none 0 0) by
                  rw [hX.out]
                  exact ((((((((HR3.out.set_ 0 (.int .i64 0)).set_ 1 (.string ⟨#[]⟩)).set_ 2 (.int .i64 0)).set_ 3 (.int .i64 0)).set_ 4 (.int .i64 0)).set_ 5 (.int .i64 0)).set_ 6 (.string ⟨#[]⟩)).set_ 7 (.int .i64 0)).set_ 8 (.slice none 0 0))
                have HXK := Lib.hid (show Below w.heap.size w X by
                  have hh := HRL.out
                  rw [hX.out]
                  exact ((((((((HK3.out.setCell hh _).setCell hh _).setCell hh _).setCell hh _).setCell hh _).setCell hh _).setCell hh _).setCell hh _).setCell hh _)
                clear hX
                have r0 := HXR.out.cell 0
                have r1 := HXR.out.cell 1
                have r2 := HXR.out.cell 2
                have r3 := HXR.out.cell 3
                have r4 := HXR.out.cell 4
                have r5 := HXR.out.cell 5
                have r6 := HXR.out.cell 6
                have r7 := HXR.out.cell 7
                have r8 := HXR.out.cell 8
                have f0 := HXR.out.frozen 0
                have f1 := HXR.out.frozen 1
                have f2 := HXR.out.frozen 2
                have f3 := HXR.out.frozen 3
                have f4 := HXR.out.frozen 4
                have f5 := HXR.out.frozen 5
                have f6 := HXR.out.frozen 6
                have f7 := HXR.out.frozen 7
                have f8 := HXR.out.frozen 8
                have rl := HXR.out.lt
                simp at r0 r1 r2 r3 r4 r5 r6 r7 r8
                refine bodyPost_ret (v := .tuple #[.agg (bkC zBk none 0 0), .int .i64 1, .int .i64 3]) (by simp only [results, Tryz.results26]; go_simp) rfl ?_
                exact ⟨none, 0, 0, by rw [HQ.out]; rfl, by rw [HQ.out]; rfl, by rw [HQ.out]; exact World.ownsRow_nil _ _ _ _, HXK.out⟩
              · go_upto_region 20 with fail
                clear c0 hz0 hzn
                obtain ⟨D, hD⟩ : ∃ X, Hid (X = w3.drew) := ⟨_, rfl⟩
                have HPD := Lib.hid (show PrAt w D base R B zBk A c by rw [hD.out]; exact HP3.out.next (bDrew _))
                have HOD := Lib.hid (show D.ownsRow base2 9 1 (.slice (some ⟨g, 0, none⟩) 4 cap) 4 (sCs q) by rw [hD.out]; exact own_next HO3.out (bDrew _))
                refine wp_region_N (fun w' => w'.ownsRow base2 9 1 (.slice (some ⟨g, 0, none⟩) 4 cap) 4 (sCs q)) (fun _ => true) (by kernel_rfl) ?_
                rw [← hD.out]
                have hS0 := HOD.out
                clear hD HP3 HO3 HOD
                refine wpAnyN_take (i := 0) (v := ?v1) rfl (by kernel_rfl) (by kernel_rfl) (by kernel_rfl) (by kernel_rfl) (fun _ _ _ h => h) (Or.inl ⟨by rfl, ?hy1⟩) (by assumption) ?_
                case hy1 => intro w hSw; (try dsimp only at hSw); go_simp; try with_reducible rfl
                simp only [Act.put, List.getElem_toArray, List.getElem_cons_zero, List.setIfInBounds_toArray, List.set_cons_zero, List.set_cons_succ]
                refine wpAnyN_take (i := 1) (v := ?v2) rfl (by kernel_rfl) (by kernel_rfl) (by kernel_rfl) (by kernel_rfl) (fun _ _ _ h => h) (Or.inl ⟨by rfl, ?hy2⟩) (by assumption) ?_
                case hy2 => intro w hSw; (try dsimp only at hSw); go_simp; try with_reducible rfl
                simp only [Act.put, List.getElem_toArray, List.getElem_cons_zero, List.getElem_cons_succ, List.setIfInBounds_toArray, List.set_cons_zero, List.set_cons_succ]
                refine wpAnyN_take (i := 2) (v := .string (S p1)) rfl (by kernel_rfl) (by kernel_rfl) (by kernel_rfl) (by kernel_rfl) (fun _ _ _ h => h) (Or.inl ⟨by rfl, ?ba2⟩) (by assumption) ?_
                case ba2 => intro w hSw; have c0 := own_word hSw HW.out.2.1; go_simp; try with_reducible rfl
                simp only [Act.put, List.getElem_toArray, List.getElem_cons_zero, List.getElem_cons_succ, List.setIfInBounds_toArray, List.set_cons_zero, List.set_cons_succ]
                refine wpAnyN_take (i := 4) (v := ?v3) rfl (by kernel_rfl) (by kernel_rfl) (by kernel_rfl) (by kernel_rfl) (fun _ _ _ h => h) (Or.inl ⟨by rfl, ?hy3⟩) (by assumption) ?_
                case hy3 => intro w hSw; (try dsimp only at hSw); go_simp; try with_reducible rfl
                simp only [Act.put, List.getElem_toArray, List.getElem_cons_zero, List.getElem_cons_succ, List.setIfInBounds_toArray, List.set_cons_zero, List.set_cons_succ]
                refine wpAnyN_take (i := 5) (v := ?v4) rfl (by kernel_rfl) (by kernel_rfl) (by kernel_rfl) (by kernel_rfl) (fun _ _ _ h => h) (Or.inl ⟨by rfl, ?hy4⟩) (by assumption) ?_
                case hy4 => intro w hSw; (try dsimp only at hSw); go_simp; try with_reducible rfl
                simp only [Act.put, List.getElem_toArray, List.getElem_cons_zero, List.getElem_cons_succ, List.setIfInBounds_toArray, List.set_cons_zero, List.set_cons_succ]
                refine wpAnyN_take (i := 6) (v := .string (S p2)) rfl (by kernel_rfl) (by kernel_rfl) (by kernel_rfl) (by kernel_rfl) (fun _ _ _ h => h) (Or.inl ⟨by rfl, ?ba6⟩) (by assumption) ?_
                case ba6 => intro w hSw; have c0 := own_word hSw HW.out.2.2.1; go_simp; try with_reducible rfl
                simp only [Act.put, List.getElem_toArray, List.getElem_cons_zero, List.getElem_cons_succ, List.setIfInBounds_toArray, List.set_cons_zero, List.set_cons_succ]
                refine wpAnyN_take (i := 8) (v := ?v5) rfl (by kernel_rfl) (by kernel_rfl) (by kernel_rfl) (by kernel_rfl) (fun _ _ _ h => h) (Or.inl ⟨by rfl, ?hy5⟩) (by assumption) ?_
                case hy5 => intro w hSw; (try dsimp only at hSw); go_simp; try with_reducible rfl
                simp only [Act.put, List.getElem_toArray, List.getElem_cons_zero, List.getElem_cons_succ, List.setIfInBounds_toArray, List.set_cons_zero, List.set_cons_succ]
                refine wpAnyN_take (i := 9) (v := ?v6) rfl (by kernel_rfl) (by kernel_rfl) (by kernel_rfl) (by kernel_rfl) (fun _ _ _ h => h) (Or.inl ⟨by rfl, ?hy6⟩) (by assumption) ?_
                case hy6 => intro w hSw; (try dsimp only at hSw); go_simp; try with_reducible rfl
                simp only [Act.put, List.getElem_toArray, List.getElem_cons_zero, List.getElem_cons_succ, List.setIfInBounds_toArray, List.set_cons_zero, List.set_cons_succ]
                refine wpAnyN_take (i := 10) (v := .string (S p3)) rfl (by kernel_rfl) (by kernel_rfl) (by kernel_rfl) (by kernel_rfl) (fun _ _ _ h => h) (Or.inl ⟨by rfl, ?ba10⟩) (by assumption) ?_
                case ba10 => intro w hSw; have c0 := own_word hSw HW.out.2.2.2; go_simp; try with_reducible rfl
                simp only [Act.put, List.getElem_toArray, List.getElem_cons_zero, List.getElem_cons_succ, List.setIfInBounds_toArray, List.set_cons_zero, List.set_cons_succ]
                refine wpAnyN_one (i := 3) (by kernel_rfl) rfl (fun K hK => ?_)
                simp only [List.getElem_toArray, List.getElem_cons_zero, List.getElem_cons_succ]
                go_simp
                refine (toNumber_any p1 D (by have := HWL.out.1; omega)).mono ?_
                rintro e w4 ⟨rfl, hw4⟩
                rw [hw4]
                clear hw4
                obtain ⟨i0, hi0⟩ : ∃ a, Hid (a = tnP p1) := ⟨_, rfl⟩
                rw [← hi0.out]
                refine hK _ _ (fun _ => hS0) ?_
                clear hK
                (try simp only [Act.put, List.setIfInBounds_toArray, List.set_cons_zero, List.set_cons_succ])
                refine wpAnyN_take (i := 12) (v := ?v7) rfl (by kernel_rfl) (by kernel_rfl) (by kernel_rfl) (by kernel_rfl) (fun _ _ _ h => h) (Or.inl ⟨by rfl, ?hy7⟩) (by assumption) ?_
                case hy7 => intro w hSw; (try dsimp only at hSw); go_simp; try with_reducible rfl
                simp only [Act.put, List.getElem_toArray, List.getElem_cons_zero, List.getElem_cons_succ, List.setIfInBounds_toArray, List.set_cons_zero, List.set_cons_succ]
                refine wpAnyN_one (i := 7) (by kernel_rfl) rfl (fun K hK => ?_)
                simp only [List.getElem_toArray, List.getElem_cons_zero, List.getElem_cons_succ]
                go_simp
                refine (toPred_any p2 D (by have := HWL.out.2.1; omega)).mono ?_
                rintro e w5 ⟨rfl, hb5⟩
                obtain ⟨a1, ha1⟩ : ∃ a, Hid (a = (tpP p2).1) := ⟨_, rfl⟩
                obtain ⟨a2, ha2⟩ : ∃ a, Hid (a = (tpP p2).2.1) := ⟨_, rfl⟩
                obtain ⟨a3, ha3⟩ : ∃ a, Hid (a = (tpP p2).2.2) := ⟨_, rfl⟩
                rw [← ha1.out, ← ha2.out, ← ha3.out]
                have HP5 := Lib.hid (HPD.out.next hb5)
                have hS5 := own_next hS0 hb5
                refine hK _ _ (fun _ => hS5) ?_
                clear hK hS0 HPD hb5
                (try simp only [Act.put, List.setIfInBounds_toArray, List.set_cons_zero, List.set_cons_succ])
                refine wpAnyN_one (i := 11) (by kernel_rfl) rfl (fun K hK => ?_)
                simp only [List.getElem_toArray, List.getElem_cons_zero, List.getElem_cons_succ]
                go_simp
                refine (toKey_any p3 w5 (by have := HWL.out.2.2; omega)).mono ?_
                rintro e w6 ⟨rfl, hb6⟩
                obtain ⟨k0, hk0⟩ : ∃ a, Hid (a = (tkP p3).1) := ⟨_, rfl⟩
                obtain ⟨k1, hk1⟩ : ∃ a, Hid (a = (tkP p3).2.1) := ⟨_, rfl⟩
                obtain ⟨k2, hk2⟩ : ∃ a, Hid (a = (tkP p3).2.2.1) := ⟨_, rfl⟩
                obtain ⟨k3, hk3⟩ : ∃ a, Hid (a = (tkP p3).2.2.2) := ⟨_, rfl⟩
                rw [← hk0.out, ← hk1.out, ← hk2.out, ← hk3.out]
                have HP6 := Lib.hid (HP5.out.next hb6)
                have hS6 := own_next hS5 hb6
                refine hK _ _ (fun _ => hS6) ?_
                clear hK hS5 HP5 hb6
                (try simp only [Act.put, List.setIfInBounds_toArray, List.set_cons_zero, List.set_cons_succ])
                have s0 := HP6.out.bb.cell 0
                have s1 := HP6.out.bb.cell 1
                have s2 := HP6.out.bb.cell 2
                have s3 := HP6.out.bb.cell 3
                have s4 := HP6.out.bb.cell 4
                have s5 := HP6.out.bb.cell 5
                have s6 := HP6.out.bb.cell 6
                have s7 := HP6.out.bb.cell 7
                have s8 := HP6.out.bb.cell 8
                have f0 := HP6.out.bb.frozen 0
                have f1 := HP6.out.bb.frozen 1
                have f2 := HP6.out.bb.frozen 2
                have f3 := HP6.out.bb.frozen 3
                have f4 := HP6.out.bb.frozen 4
                have f5 := HP6.out.bb.frozen 5
                have f6 := HP6.out.bb.frozen 6
                have f7 := HP6.out.bb.frozen 7
                have f8 := HP6.out.bb.frozen 8
                have sl := HP6.out.bb.lt
                simp at s0 s1 s2 s3 s4 s5 s6 s7 s8
                refine wpAnyN_one (i := 13) (by kernel_rfl) rfl (fun K hK => ?_)
                simp only [List.getElem_toArray, List.getElem_cons_zero, List.getElem_cons_succ]
                go_simp
                obtain ⟨X1, hX1⟩ : ∃ X, Hid (X = w6.setCell ⟨B, 0, none⟩ (.int .i64 i0)) := ⟨_, rfl⟩
                rw [← hX1.out]
                have HPX1 := Lib.hid (show PrAt w X1 base R B { zBk with id := i0 } A c by rw [hX1.out]; exact HP6.out.put (HP6.out.bb.set_ 0 (.int .i64 i0)) rfl)
                have hT1 : X1.ownsRow base2 9 1 (.slice (some ⟨g, 0, none⟩) 4 cap) 4 (sCs q) := by rw [hX1.out]; exact own_far hS6 HGB.out
                refine hK _ _ (fun _ => hT1) ?_
                clear s0 s1 s2 s3 s4 s5 s6 s7 s8 f0 f1 f2 f3 f4 f5 f6 f7 f8 sl
                clear hK hS6 HP6 hX1
                (try simp only [Act.put, List.setIfInBounds_toArray, List.set_cons_zero, List.set_cons_succ])
                refine wpAnyN_take (i := 14) (v := ?v8) rfl (by kernel_rfl) (by kernel_rfl) (by kernel_rfl) (by kernel_rfl) (fun _ _ _ h => h) (Or.inl ⟨by rfl, ?hy8⟩) (by assumption) ?_
                case hy8 => intro w hSw; (try dsimp only at hSw); go_simp; try with_reducible rfl
                simp only [Act.put, List.getElem_toArray, List.getElem_cons_zero, List.getElem_cons_succ, List.setIfInBounds_toArray, List.set_cons_zero, List.set_cons_succ]
                have s0 := HPX1.out.bb.cell 0
                have s1 := HPX1.out.bb.cell 1
                have s2 := HPX1.out.bb.cell 2
                have s3 := HPX1.out.bb.cell 3
                have s4 := HPX1.out.bb.cell 4
                have s5 := HPX1.out.bb.cell 5
                have s6 := HPX1.out.bb.cell 6
                have s7 := HPX1.out.bb.cell 7
                have s8 := HPX1.out.bb.cell 8
                have f0 := HPX1.out.bb.frozen 0
                have f1 := HPX1.out.bb.frozen 1
                have f2 := HPX1.out.bb.frozen 2
                have f3 := HPX1.out.bb.frozen 3
                have f4 := HPX1.out.bb.frozen 4
                have f5 := HPX1.out.bb.frozen 5
                have f6 := HPX1.out.bb.frozen 6
                have f7 := HPX1.out.bb.frozen 7
                have f8 := HPX1.out.bb.frozen 8
                have sl := HPX1.out.bb.lt
                simp at s0 s1 s2 s3 s4 s5 s6 s7 s8
                refine wpAnyN_one (i := 15) (by kernel_rfl) rfl (fun K hK => ?_)
                simp only [List.getElem_toArray, List.getElem_cons_zero, List.getElem_cons_succ]
                go_simp
                obtain ⟨X2, hX2⟩ : ∃ X, Hid (X = ((X1.setCell ⟨B, 1, none⟩ (.string (S a1))).setCell ⟨B, 2, none⟩ (.int .i64 a2)).setCell ⟨B, 3, none⟩ (.int .i64 a3)) := ⟨_, rfl⟩
                rw [← hX2.out]
                have HPX2 := Lib.hid (show PrAt w X2 base R B { zBk with id := i0, pn := S a1, par := a2, paux := a3 } A c by
                  rw [hX2.out]
                  have h1 : PrAt w (X1.setCell ⟨B, 1, none⟩ (.string (S a1))) base R B { zBk with id := i0, pn := S a1 } A c := HPX1.out.put (HPX1.out.bb.set_ 1 (.string (S a1))) rfl
                  have h2 : PrAt w ((X1.setCell ⟨B, 1, none⟩ (.string (S a1))).setCell ⟨B, 2, none⟩ (.int .i64 a2)) base R B { zBk with id := i0, pn := S a1, par := a2 } A c := h1.put (h1.bb.set_ 2 (.int .i64 a2)) rfl
                  exact h2.put (h2.bb.set_ 3 (.int .i64 a3)) rfl)
                have hT2 : X2.ownsRow base2 9 1 (.slice (some ⟨g, 0, none⟩) 4 cap) 4 (sCs q) := by rw [hX2.out]; exact own_far (own_far (own_far hT1 HGB.out) HGB.out) HGB.out
                refine hK _ _ (fun _ => hT2) ?_
                clear s0 s1 s2 s3 s4 s5 s6 s7 s8 f0 f1 f2 f3 f4 f5 f6 f7 f8 sl
                clear hK hT1 HPX1 hX2
                (try simp only [Act.put, List.setIfInBounds_toArray, List.set_cons_zero, List.set_cons_succ])
                refine wpAnyN_take (i := 16) (v := ?v9) rfl (by kernel_rfl) (by kernel_rfl) (by kernel_rfl) (by kernel_rfl) (fun _ _ _ h => h) (Or.inl ⟨by rfl, ?hy9⟩) (by assumption) ?_
                case hy9 => intro w hSw; (try dsimp only at hSw); go_simp; try with_reducible rfl
                simp only [Act.put, List.getElem_toArray, List.getElem_cons_zero, List.getElem_cons_succ, List.setIfInBounds_toArray, List.set_cons_zero, List.set_cons_succ]
                have s0 := HPX2.out.bb.cell 0
                have s1 := HPX2.out.bb.cell 1
                have s2 := HPX2.out.bb.cell 2
                have s3 := HPX2.out.bb.cell 3
                have s4 := HPX2.out.bb.cell 4
                have s5 := HPX2.out.bb.cell 5
                have s6 := HPX2.out.bb.cell 6
                have s7 := HPX2.out.bb.cell 7
                have s8 := HPX2.out.bb.cell 8
                have f0 := HPX2.out.bb.frozen 0
                have f1 := HPX2.out.bb.frozen 1
                have f2 := HPX2.out.bb.frozen 2
                have f3 := HPX2.out.bb.frozen 3
                have f4 := HPX2.out.bb.frozen 4
                have f5 := HPX2.out.bb.frozen 5
                have f6 := HPX2.out.bb.frozen 6
                have f7 := HPX2.out.bb.frozen 7
                have f8 := HPX2.out.bb.frozen 8
                have sl := HPX2.out.bb.lt
                simp at s0 s1 s2 s3 s4 s5 s6 s7 s8
                refine wpAnyN_one (i := 17) (by kernel_rfl) rfl (fun K hK => ?_)
                simp only [List.getElem_toArray, List.getElem_cons_zero, List.getElem_cons_succ]
                go_simp
                obtain ⟨X3, hX3⟩ : ∃ X, Hid (X = (((X2.setCell ⟨B, 4, none⟩ (.int .i64 k0)).setCell ⟨B, 5, none⟩ (.int .i64 k1)).setCell ⟨B, 6, none⟩ (.string (S k2))).setCell ⟨B, 7, none⟩ (.int .i64 k3)) := ⟨_, rfl⟩
                rw [← hX3.out]
                have HPX3 := Lib.hid (show PrAt w X3 base R B ⟨i0, S a1, a2, a3, k0, k1, S k2, k3, []⟩ A c by
                  rw [hX3.out]
                  have h1 : PrAt w (X2.setCell ⟨B, 4, none⟩ (.int .i64 k0)) base R B ⟨i0, S a1, a2, a3, k0, 0, ⟨#[]⟩, 0, []⟩ A c := HPX2.out.put (HPX2.out.bb.set_ 4 (.int .i64 k0)) rfl
                  have h2 : PrAt w ((X2.setCell ⟨B, 4, none⟩ (.int .i64 k0)).setCell ⟨B, 5, none⟩ (.int .i64 k1)) base R B ⟨i0, S a1, a2, a3, k0, k1, ⟨#[]⟩, 0, []⟩ A c := h1.put (h1.bb.set_ 5 (.int .i64 k1)) rfl
                  have h3 : PrAt w (((X2.setCell ⟨B, 4, none⟩ (.int .i64 k0)).setCell ⟨B, 5, none⟩ (.int .i64 k1)).setCell ⟨B, 6, none⟩ (.string (S k2))) base R B ⟨i0, S a1, a2, a3, k0, k1, S k2, 0, []⟩ A c := h2.put (h2.bb.set_ 6 (.string (S k2))) rfl
                  exact h3.put (h3.bb.set_ 7 (.int .i64 k3)) rfl)
                have hT3 : X3.ownsRow base2 9 1 (.slice (some ⟨g, 0, none⟩) 4 cap) 4 (sCs q) := by rw [hX3.out]; exact own_far (own_far (own_far (own_far hT2 HGB.out) HGB.out) HGB.out) HGB.out
                refine hK _ _ (fun _ => hT3) ?_
                clear s0 s1 s2 s3 s4 s5 s6 s7 s8 f0 f1 f2 f3 f4 f5 f6 f7 f8 sl
                clear hK hT2 HPX2 hX3 hT3
                (try simp only [Act.put, List.setIfInBounds_toArray, List.set_cons_zero, List.set_cons_succ])
                refine wpAnyN_done (by kernel_rfl) ?_ _
                obtain ⟨b1, hb1⟩ : ∃ b, Hid (b = thB q) := ⟨_, rfl⟩
                have HCD := Lib.hid (show b1.code = [] by rw [hb1.out]; rfl)
                have HKN := Lib.hid (show inR b1.kn by rw [hb1.out, HTH.out]; exact tk_in _)
                rw [hi0.out, ha1.out, ha2.out, ha3.out, hk0.out, hk1.out, hk2.out, hk3.out, ← HTH.out, ← hb1.out] at HPX3
                go_upto_region 21 with fail
                obtain ⟨E, hE⟩ : ∃ X, Hid (X = X3.drew) := ⟨_, rfl⟩
                have HPE := Lib.hid (show PrAt w E base R B b1 A c by rw [hE.out]; exact HPX3.out.next (bDrew _))
                refine wp_region_N (fun w' => Blk w' B 28 (bkC b1 A b1.code.length c)) (fun _ => true) (by kernel_rfl) ?_
                rw [← hE.out]
                have hS0 := HPE.out.bb
                clear hE HPX3
                refine wpAnyN_take (i := 0) (v := b1.v A c) rfl (by kernel_rfl) (by kernel_rfl) (by kernel_rfl) (by kernel_rfl) (fun _ _ _ h => h) (Or.inl ⟨by rfl, ?be0⟩) (by assumption) ?_
                case be0 => intro w hSw; have t0 := hSw.cell 0;have t1 := hSw.cell 1;have t2 := hSw.cell 2;have t3 := hSw.cell 3;have t4 := hSw.cell 4;have t5 := hSw.cell 5;have t6 := hSw.cell 6;have t7 := hSw.cell 7;have t8 := hSw.cell 8;have tl := hSw.lt;simp at t0 t1 t2 t3 t4 t5 t6 t7 t8; go_simp; try with_reducible rfl
                simp only [Act.put, List.getElem_toArray, List.getElem_cons_zero, List.setIfInBounds_toArray, List.set_cons_zero, List.set_cons_succ]
                refine wpAnyN_one (i := 1) (by kernel_rfl) rfl (fun K hK => ?_)
                simp only [List.getElem_toArray, List.getElem_cons_zero, List.getElem_cons_succ]
                go_simp
                refine (ValidHead_any b1 A c E).mono ?_
                rintro e w7 ⟨rfl, hb7⟩
                have HP7 := Lib.hid (HPE.out.next hb7)
                have hS7 := HP7.out.bb
                obtain ⟨hv, hhv⟩ : ∃ v, Hid (v = hdP b1) := ⟨_, rfl⟩
                rw [← hhv.out]
                refine hK _ _ (fun _ => hS7) ?_
                clear hK hS0 HPE hb7
                (try simp only [Act.put, List.setIfInBounds_toArray, List.set_cons_zero, List.set_cons_succ])
                cases hv
                · have HQ := Lib.hid (show parseV t = (zBk, 1, 3) from LnAt.fail (k := 1) HL.out.2 HTL.out HT10.out (by
                    show goP [cur] 0 zBk = _
                    rw [goP_cons, if_pos rfl, th_head, if_neg]
                    rintro ⟨_, h1, _⟩
                    rw [← hq.out, ← hb1.out, ← hhv.out] at h1
                    cases h1))
                  refine wpAnyN_take (i := 2) (v := ?v10) rfl (by kernel_rfl) (by kernel_rfl) (by kernel_rfl) (by kernel_rfl) (fun _ _ _ h => h) (Or.inl ⟨by rfl, ?hy10⟩) (by assumption) ?_
                  case hy10 => intro w hSw; (try dsimp only at hSw); go_simp; try with_reducible rfl
                  simp only [Act.put, List.getElem_toArray, List.getElem_cons_zero, List.getElem_cons_succ, List.setIfInBounds_toArray, List.set_cons_zero, List.set_cons_succ]
                  refine wpAnyN_take (i := 3) (v := ?v11) rfl (by kernel_rfl) (by kernel_rfl) (by kernel_rfl) (by kernel_rfl) (fun _ _ _ h => h) (Or.inl ⟨by rfl, ?hy11⟩) (by assumption) ?_
                  case hy11 => intro w hSw; (try dsimp only at hSw); go_simp; try with_reducible rfl
                  simp only [Act.put, List.getElem_toArray, List.getElem_cons_zero, List.getElem_cons_succ, List.setIfInBounds_toArray, List.set_cons_zero, List.set_cons_succ]
                  refine wpAnyN_take (i := 4) (v := undef) rfl (by kernel_rfl) (by kernel_rfl) (by kernel_rfl) (by kernel_rfl) (fun _ _ _ h => h) (Or.inr ⟨by rfl, rfl⟩) (by assumption) ?_
                  simp only [Act.put, List.getElem_toArray, List.getElem_cons_zero, List.getElem_cons_succ, List.setIfInBounds_toArray, List.set_cons_zero, List.set_cons_succ]
                  refine wpAnyN_take (i := 5) (v := undef) rfl (by kernel_rfl) (by kernel_rfl) (by kernel_rfl) (by kernel_rfl) (fun _ _ _ h => h) (Or.inr ⟨by rfl, rfl⟩) (by assumption) ?_
                  simp only [Act.put, List.getElem_toArray, List.getElem_cons_zero, List.getElem_cons_succ, List.setIfInBounds_toArray, List.set_cons_zero, List.set_cons_succ]
                  refine wpAnyN_take (i := 9) (v := undef) rfl (by kernel_rfl) (by kernel_rfl) (by kernel_rfl) (by kernel_rfl) (fun _ _ _ h => h) (Or.inr ⟨by rfl, rfl⟩) (by assumption) ?_
                  simp only [Act.put, List.getElem_toArray, List.getElem_cons_zero, List.getElem_cons_succ, List.setIfInBounds_toArray, List.set_cons_zero, List.set_cons_succ]
                  refine wpAnyN_take (i := 10) (v := undef) rfl (by kernel_rfl) (by kernel_rfl) (by kernel_rfl) (by kernel_rfl) (fun _ _ _ h => h) (Or.inr ⟨by rfl, rfl⟩) (by assumption) ?_
                  simp only [Act.put, List.getElem_toArray, List.getElem_cons_zero, List.getElem_cons_succ, List.setIfInBounds_toArray, List.set_cons_zero, List.set_cons_succ]
                  refine wpAnyN_take (i := 14) (v := undef) rfl (by kernel_rfl) (by kernel_rfl) (by kernel_rfl) (by kernel_rfl) (fun _ _ _ h => h) (Or.inr ⟨by rfl, rfl⟩) (by assumption) ?_
                  simp only [Act.put, List.getElem_toArray, List.getElem_cons_zero, List.getElem_cons_succ, List.setIfInBounds_toArray, List.set_cons_zero, List.set_cons_succ]
                  refine wpAnyN_take (i := 15) (v := undef) rfl (by kernel_rfl) (by kernel_rfl) (by kernel_rfl) (by kernel_rfl) (fun _ _ _ h => h) (Or.inr ⟨by rfl, rfl⟩) (by assumption) ?_
                  simp only [Act.put, List.getElem_toArray, List.getElem_cons_zero, List.getElem_cons_succ, List.setIfInBounds_toArray, List.set_cons_zero, List.set_cons_succ]
                  refine wpAnyN_take (i := 18) (v := undef) rfl (by kernel_rfl) (by kernel_rfl) (by kernel_rfl) (by kernel_rfl) (fun _ _ _ h => h) (Or.inr ⟨by rfl, rfl⟩) (by assumption) ?_
                  simp only [Act.put, List.getElem_toArray, List.getElem_cons_zero, List.getElem_cons_succ, List.setIfInBounds_toArray, List.set_cons_zero, List.set_cons_succ]
                  refine wpAnyN_one (i := 6) (by kernel_rfl) rfl (fun K hK => ?_)
                  simp only [List.getElem_toArray, List.getElem_cons_zero, List.getElem_cons_succ]
                  go_simp
                  refine hK _ _ (fun _ => hS7) ?_
                  clear hK
                  (try simp only [Act.put, List.setIfInBounds_toArray, List.set_cons_zero, List.set_cons_succ])
                  refine wpAnyN_take (i := 7) (v := undef) rfl (by kernel_rfl) (by kernel_rfl) (by kernel_rfl) (by kernel_rfl) (fun _ _ _ h => h) (Or.inr ⟨by rfl, rfl⟩) (by assumption) ?_
                  simp only [Act.put, List.getElem_toArray, List.getElem_cons_zero, List.getElem_cons_succ, List.setIfInBounds_toArray, List.set_cons_zero, List.set_cons_succ]
                  refine wpAnyN_take (i := 8) (v := undef) rfl (by kernel_rfl) (by kernel_rfl) (by kernel_rfl) (by kernel_rfl) (fun _ _ _ h => h) (Or.inr ⟨by rfl, rfl⟩) (by assumption) ?_
                  simp only [Act.put, List.getElem_toArray, List.getElem_cons_zero, List.getElem_cons_succ, List.setIfInBounds_toArray, List.set_cons_zero, List.set_cons_succ]
                  refine wpAnyN_one (i := 11) (by kernel_rfl) rfl (fun K hK => ?_)
                  simp only [List.getElem_toArray, List.getElem_cons_zero, List.getElem_cons_succ]
                  go_simp
                  refine hK _ _ (fun _ => hS7) ?_
                  clear hK
                  (try simp only [Act.put, List.setIfInBounds_toArray, List.set_cons_zero, List.set_cons_succ])
                  refine wpAnyN_take (i := 12) (v := undef) rfl (by kernel_rfl) (by kernel_rfl) (by kernel_rfl) (by kernel_rfl) (fun _ _ _ h => h) (Or.inr ⟨by rfl, rfl⟩) (by assumption) ?_
                  simp only [Act.put, List.getElem_toArray, List.getElem_cons_zero, List.getElem_cons_succ, List.setIfInBounds_toArray, List.set_cons_zero, List.set_cons_succ]
                  refine wpAnyN_take (i := 13) (v := undef) rfl (by kernel_rfl) (by kernel_rfl) (by kernel_rfl) (by kernel_rfl) (fun _ _ _ h => h) (Or.inr ⟨by rfl, rfl⟩) (by assumption) ?_
                  simp only [Act.put, List.getElem_toArray, List.getElem_cons_zero, List.getElem_cons_succ, List.setIfInBounds_toArray, List.set_cons_zero, List.set_cons_succ]
                  refine wpAnyN_one (i := 16) (by kernel_rfl) rfl (fun K hK => ?_)
                  simp only [List.getElem_toArray, List.getElem_cons_zero, List.getElem_cons_succ]
                  go_simp
                  refine hK _ _ (fun _ => hS7) ?_
                  clear hK
                  (try simp only [Act.put, List.setIfInBounds_toArray, List.set_cons_zero, List.set_cons_succ])
                  refine wpAnyN_take (i := 17) (v := undef) rfl (by kernel_rfl) (by kernel_rfl) (by kernel_rfl) (by kernel_rfl) (fun _ _ _ h => h) (Or.inr ⟨by rfl, rfl⟩) (by assumption) ?_
                  simp only [Act.put, List.getElem_toArray, List.getElem_cons_zero, List.getElem_cons_succ, List.setIfInBounds_toArray, List.set_cons_zero, List.set_cons_succ]
                  refine wpAnyN_take (i := 19) (v := undef) rfl (by kernel_rfl) (by kernel_rfl) (by kernel_rfl) (by kernel_rfl) (fun _ _ _ h => h) (Or.inr ⟨by rfl, rfl⟩) (by assumption) ?_
                  simp only [Act.put, List.getElem_toArray, List.getElem_cons_zero, List.getElem_cons_succ, List.setIfInBounds_toArray, List.set_cons_zero, List.set_cons_succ]
                  refine wpAnyN_take (i := 20) (v := .bool true) rfl (by kernel_rfl) (by kernel_rfl) (by kernel_rfl) (by kernel_rfl) (fun _ _ _ h => h) (Or.inl ⟨by rfl, ?be20⟩) (by assumption) ?_
                  case be20 => intro w hSw; skip; go_simp; try with_reducible rfl
                  simp only [Act.put, List.getElem_toArray, List.getElem_cons_zero, List.getElem_cons_succ, List.setIfInBounds_toArray, List.set_cons_zero, List.set_cons_succ]
                  refine wpAnyN_done (by kernel_rfl) ?_ _
                  have HR3 := Lib.hid HP7.out.rs
                  have HK3 := Lib.hid HP7.out.kp
                  clear hS7
                  have r0 := HR3.out.cell 0
                  have r1 := HR3.out.cell 1
                  have r2 := HR3.out.cell 2
                  have r3 := HR3.out.cell 3
                  have r4 := HR3.out.cell 4
                  have r5 := HR3.out.cell 5
                  have r6 := HR3.out.cell 6
                  have r7 := HR3.out.cell 7
                  have r8 := HR3.out.cell 8
                  have f0 := HR3.out.frozen 0
                  have f1 := HR3.out.frozen 1
                  have f2 := HR3.out.frozen 2
                  have f3 := HR3.out.frozen 3
                  have f4 := HR3.out.frozen 4
                  have f5 := HR3.out.frozen 5
                  have f6 := HR3.out.frozen 6
                  have f7 := HR3.out.frozen 7
                  have f8 := HR3.out.frozen 8
                  have rl := HR3.out.lt
                  simp at r0 r1 r2 r3 r4 r5 r6 r7 r8
                  go_wp2_with fail
                  obtain ⟨X, hX⟩ : ∃ X, Hid (X = ((((((((w7.setCell ⟨R, 0, none⟩ (.int .i64 0)).setCell ⟨R, 1, none⟩ (.string ⟨#[]⟩)).setCell ⟨R, 2, none⟩ (.int .i64 0)).setCell ⟨R, 3, none⟩ (.int .i64 0)).setCell ⟨R, 4, none⟩ (.int .i64 0)).setCell ⟨R, 5, none⟩ (.int .i64 0)).setCell ⟨R, 6, none⟩ (.string ⟨#[]⟩)).setCell ⟨R, 7, none⟩ (.int .i64 0)).setCell ⟨R, 8, none⟩ (.slice none 0 0)) := ⟨_, rfl⟩
                  rw [← hX.out]
                  clear r0 r1 r2 r3 r4 r5 r6 r7 r8 f0 f1 f2 f3 f4 f5 f6 f7 f8 rl
                  have HXR := Lib.hid (show Blk X R 28 (bkC zBk none 0 0) by
                    rw [hX.out]
                    exact ((((((((HR3.out.set_ 0 (.int .i64 0)).set_ 1 (.string ⟨#[]⟩)).set_ 2 (.int .i64 0)).set_ 3 (.int .i64 0)).set_ 4 (.int .i64 0)).set_ 5 (.int .i64 0)).set_ 6 (.string ⟨#[]⟩)).set_ 7 (.int .i64 0)).set_ 8 (.slice none 0 0))
                  have HXK := Lib.hid (show Below w.heap.size w X by
                    have hh := HRL.out
                    rw [hX.out]
                    exact ((((((((HK3.out.setCell hh _).setCell hh _).setCell hh _).setCell hh _).setCell hh _).setCell hh _).setCell hh _).setCell hh _).setCell hh _)
                  clear hX
                  have r0 := HXR.out.cell 0
                  have r1 := HXR.out.cell 1
                  have r2 := HXR.out.cell 2
                  have r3 := HXR.out.cell 3
                  have r4 := HXR.out.cell 4
                  have r5 := HXR.out.cell 5
                  have r6 := HXR.out.cell 6
                  have r7 := HXR.out.cell 7
                  have r8 := HXR.out.cell 8
                  have f0 := HXR.out.frozen 0
                  have f1 := HXR.out.frozen 1
                  have f2 := HXR.out.frozen 2
                  have f3 := HXR.out.frozen 3
                  have f4 := HXR.out.frozen 4
                  have f5 := HXR.out.frozen 5
                  have f6 := HXR.out.frozen 6
                  have f7 := HXR.out.frozen 7
                  have f8 := HXR.out.frozen 8
                  have rl := HXR.out.lt
                  simp at r0 r1 r2 r3 r4 r5 r6 r7 r8
                  refine bodyPost_ret (v := .tuple #[.agg (bkC zBk none 0 0), .int .i64 1, .int .i64 3]) (by simp only [results, Tryz.results26]; go_simp) rfl ?_
                  exact ⟨none, 0, 0, by rw [HQ.out]; rfl, by rw [HQ.out]; rfl, by rw [HQ.out]; exact World.ownsRow_nil _ _ _ _, HXK.out⟩
                · have HD := Lib.hid (hd_facts hhv.out.symm)
                  have HPA := Lib.hid (show 0 ≤ b1.paux by
                    have h := hhv.out.symm
                    unfold hdP at h
                    simp only [Bool.and_eq_true] at h
                    exact (pd_facts h.2.1).2.2.1)
                  refine wpAnyN_take (i := 2) (v := ?v12) rfl (by kernel_rfl) (by kernel_rfl) (by kernel_rfl) (by kernel_rfl) (fun _ _ _ h => h) (Or.inl ⟨by rfl, ?hy12⟩) (by assumption) ?_
                  case hy12 => intro w hSw; (try dsimp only at hSw); go_simp; try with_reducible rfl
                  simp only [Act.put, List.getElem_toArray, List.getElem_cons_zero, List.getElem_cons_succ, List.setIfInBounds_toArray, List.set_cons_zero, List.set_cons_succ]
                  refine wpAnyN_take (i := 3) (v := ?v13) rfl (by kernel_rfl) (by kernel_rfl) (by kernel_rfl) (by kernel_rfl) (fun _ _ _ h => h) (Or.inl ⟨by rfl, ?hy13⟩) (by assumption) ?_
                  case hy13 => intro w hSw; (try dsimp only at hSw); go_simp; try with_reducible rfl
                  simp only [Act.put, List.getElem_toArray, List.getElem_cons_zero, List.getElem_cons_succ, List.setIfInBounds_toArray, List.set_cons_zero, List.set_cons_succ]
                  refine wpAnyN_take (i := 4) (v := ?v14) rfl (by kernel_rfl) (by kernel_rfl) (by kernel_rfl) (by kernel_rfl) (fun _ _ _ h => h) (Or.inl ⟨by rfl, ?hy14⟩) (by assumption) ?_
                  case hy14 => intro w hSw; (try dsimp only at hSw); go_simp; try with_reducible rfl
                  simp only [Act.put, List.getElem_toArray, List.getElem_cons_zero, List.getElem_cons_succ, List.setIfInBounds_toArray, List.set_cons_zero, List.set_cons_succ]
                  refine wpAnyN_take (i := 5) (v := .int .i64 b1.id) rfl (by kernel_rfl) (by kernel_rfl) (by kernel_rfl) (by kernel_rfl) (fun _ _ _ h => h) (Or.inl ⟨by rfl, ?be5⟩) (by assumption) ?_
                  case be5 => intro w hSw; have t0 := hSw.cell 0;have tl := hSw.lt;simp at t0; go_simp; try with_reducible rfl
                  simp only [Act.put, List.getElem_toArray, List.getElem_cons_zero, List.getElem_cons_succ, List.setIfInBounds_toArray, List.set_cons_zero, List.set_cons_succ]
                  refine wpAnyN_take (i := 9) (v := ?v15) rfl (by kernel_rfl) (by kernel_rfl) (by kernel_rfl) (by kernel_rfl) (fun _ _ _ h => h) (Or.inl ⟨by rfl, ?hy15⟩) (by assumption) ?_
                  case hy15 => intro w hSw; (try dsimp only at hSw); go_simp; try with_reducible rfl
                  simp only [Act.put, List.getElem_toArray, List.getElem_cons_zero, List.getElem_cons_succ, List.setIfInBounds_toArray, List.set_cons_zero, List.set_cons_succ]
                  refine wpAnyN_take (i := 10) (v := .agg #[.string b1.pn, .int .i64 b1.par, .int .i64 b1.paux]) rfl (by kernel_rfl) (by kernel_rfl) (by kernel_rfl) (by kernel_rfl) (fun _ _ _ h => h) (Or.inl ⟨by rfl, ?be10⟩) (by assumption) ?_
                  case be10 => intro w hSw; have t1 := hSw.cell 1;have t2 := hSw.cell 2;have t3 := hSw.cell 3;have tl := hSw.lt;simp at t1 t2 t3; go_simp; try with_reducible rfl
                  simp only [Act.put, List.getElem_toArray, List.getElem_cons_zero, List.getElem_cons_succ, List.setIfInBounds_toArray, List.set_cons_zero, List.set_cons_succ]
                  refine wpAnyN_take (i := 14) (v := ?v16) rfl (by kernel_rfl) (by kernel_rfl) (by kernel_rfl) (by kernel_rfl) (fun _ _ _ h => h) (Or.inl ⟨by rfl, ?hy16⟩) (by assumption) ?_
                  case hy16 => intro w hSw; (try dsimp only at hSw); go_simp; try with_reducible rfl
                  simp only [Act.put, List.getElem_toArray, List.getElem_cons_zero, List.getElem_cons_succ, List.setIfInBounds_toArray, List.set_cons_zero, List.set_cons_succ]
                  refine wpAnyN_take (i := 15) (v := .agg #[.int .i64 b1.kk, .int .i64 b1.kn, .string b1.knm, .int .i64 b1.kar]) rfl (by kernel_rfl) (by kernel_rfl) (by kernel_rfl) (by kernel_rfl) (fun _ _ _ h => h) (Or.inl ⟨by rfl, ?be15⟩) (by assumption) ?_
                  case be15 => intro w hSw; have t4 := hSw.cell 4;have t5 := hSw.cell 5;have t6 := hSw.cell 6;have t7 := hSw.cell 7;have tl := hSw.lt;simp at t4 t5 t6 t7; go_simp; try with_reducible rfl
                  simp only [Act.put, List.getElem_toArray, List.getElem_cons_zero, List.getElem_cons_succ, List.setIfInBounds_toArray, List.set_cons_zero, List.set_cons_succ]
                  refine wpAnyN_take (i := 18) (v := ?v17) rfl (by kernel_rfl) (by kernel_rfl) (by kernel_rfl) (by kernel_rfl) (fun _ _ _ h => h) (Or.inl ⟨by rfl, ?hy17⟩) (by assumption) ?_
                  case hy17 => intro w hSw; (try dsimp only at hSw); go_simp; try with_reducible rfl
                  simp only [Act.put, List.getElem_toArray, List.getElem_cons_zero, List.getElem_cons_succ, List.setIfInBounds_toArray, List.set_cons_zero, List.set_cons_succ]
                  obtain ⟨y0, hy0⟩ : ∃ y, Hid (y = numL b1.id) := ⟨_, rfl⟩
                  obtain ⟨y1, hy1⟩ : ∃ y, Hid (y = predL b1.pn.data.toList b1.par b1.paux) := ⟨_, rfl⟩
                  obtain ⟨y2, hy2⟩ : ∃ y, Hid (y = keyL b1.kk b1.kn b1.knm.data.toList b1.kar) := ⟨_, rfl⟩
                  have hz0 : (S y0).size ≤ 21 := by rw [S_size, hy0.out]; exact num_len _ HD.out.id
                  have hz1 : (S y1).size ≤ 450 := by rw [S_size, hy1.out]; exact HD.out.pl
                  have hz2 : (S y2).size ≤ 450 := by rw [S_size, hy2.out]; exact HD.out.kl HKN.out
                  refine wpAnyN_one (i := 6) (by kernel_rfl) rfl (fun K hK => ?_)
                  simp only [List.getElem_toArray, List.getElem_cons_zero, List.getElem_cons_succ]
                  go_simp
                  refine (number_any b1.id w7 HD.out.id).mono ?_
                  rintro e w8 ⟨rfl, hb8⟩
                  rw [← hy0.out]
                  have HP8 := Lib.hid (HP7.out.next hb8)
                  have hS8 := HP8.out.bb
                  refine hK _ _ (fun _ => hS8) ?_
                  clear hK hb8 hS7 HP7
                  (try simp only [Act.put, List.setIfInBounds_toArray, List.set_cons_zero, List.set_cons_succ])
                  refine wpAnyN_take (i := 7) (v := .string ((⟨#[98, 108, 111, 99, 107, 32]⟩ : ByteArray) ++ S y0)) rfl (by kernel_rfl) (by kernel_rfl) (by kernel_rfl) (by kernel_rfl) (fun _ _ _ h => h) (Or.inl ⟨by rfl, ?hv3⟩) (by assumption) ?_
                  case hv3 => intro w hSw; go_simp; omega
                  simp only [Act.put, List.getElem_toArray, List.getElem_cons_zero, List.getElem_cons_succ, List.setIfInBounds_toArray, List.set_cons_zero, List.set_cons_succ]
                  refine wpAnyN_take (i := 8) (v := .string ((⟨#[98, 108, 111, 99, 107, 32]⟩ : ByteArray) ++ S y0 ++ ⟨#[32]⟩)) rfl (by kernel_rfl) (by kernel_rfl) (by kernel_rfl) (by kernel_rfl) (fun _ _ _ h => h) (Or.inl ⟨by rfl, ?hv4⟩) (by assumption) ?_
                  case hv4 => intro w hSw; go_simp; omega
                  simp only [Act.put, List.getElem_toArray, List.getElem_cons_zero, List.getElem_cons_succ, List.setIfInBounds_toArray, List.set_cons_zero, List.set_cons_succ]
                  refine wpAnyN_one (i := 11) (by kernel_rfl) rfl (fun K hK => ?_)
                  simp only [List.getElem_toArray, List.getElem_cons_zero, List.getElem_cons_succ]
                  go_simp
                  refine (Pred_any b1.pn b1.par b1.paux w8 HD.out.pn HD.out.par HD.out.paux HPA.out).mono ?_
                  rintro e w9 ⟨rfl, hb9⟩
                  rw [← hy1.out]
                  have HP9 := Lib.hid (HP8.out.next hb9)
                  have hS9 := HP9.out.bb
                  refine hK _ _ (fun _ => hS9) ?_
                  clear hK hb9 hS8 HP8
                  (try simp only [Act.put, List.setIfInBounds_toArray, List.set_cons_zero, List.set_cons_succ])
                  refine wpAnyN_take (i := 12) (v := .string ((⟨#[98, 108, 111, 99, 107, 32]⟩ : ByteArray) ++ S y0 ++ ⟨#[32]⟩ ++ S y1)) rfl (by kernel_rfl) (by kernel_rfl) (by kernel_rfl) (by kernel_rfl) (fun _ _ _ h => h) (Or.inl ⟨by rfl, ?hv8⟩) (by assumption) ?_
                  case hv8 => intro w hSw; go_simp; omega
                  simp only [Act.put, List.getElem_toArray, List.getElem_cons_zero, List.getElem_cons_succ, List.setIfInBounds_toArray, List.set_cons_zero, List.set_cons_succ]
                  refine wpAnyN_take (i := 13) (v := .string ((⟨#[98, 108, 111, 99, 107, 32]⟩ : ByteArray) ++ S y0 ++ ⟨#[32]⟩ ++ S y1 ++ ⟨#[32]⟩)) rfl (by kernel_rfl) (by kernel_rfl) (by kernel_rfl) (by kernel_rfl) (fun _ _ _ h => h) (Or.inl ⟨by rfl, ?hv9⟩) (by assumption) ?_
                  case hv9 => intro w hSw; go_simp; omega
                  simp only [Act.put, List.getElem_toArray, List.getElem_cons_zero, List.getElem_cons_succ, List.setIfInBounds_toArray, List.set_cons_zero, List.set_cons_succ]
                  refine wpAnyN_one (i := 16) (by kernel_rfl) rfl (fun K hK => ?_)
                  simp only [List.getElem_toArray, List.getElem_cons_zero, List.getElem_cons_succ]
                  go_simp
                  refine (Key_any b1.kk b1.kn b1.knm b1.kar w9 HD.out.knm HD.out.kar HKN.out).mono ?_
                  rintro e wa ⟨rfl, hba⟩
                  rw [← hy2.out]
                  have HPA9 := Lib.hid (HP9.out.next hba)
                  have hSA := HPA9.out.bb
                  refine hK _ _ (fun _ => hSA) ?_
                  clear hK hba hS9 HP9
                  (try simp only [Act.put, List.setIfInBounds_toArray, List.set_cons_zero, List.set_cons_succ])
                  refine wpAnyN_take (i := 17) (v := .string ((⟨#[98, 108, 111, 99, 107, 32]⟩ : ByteArray) ++ S y0 ++ ⟨#[32]⟩ ++ S y1 ++ ⟨#[32]⟩ ++ S y2)) rfl (by kernel_rfl) (by kernel_rfl) (by kernel_rfl) (by kernel_rfl) (fun _ _ _ h => h) (Or.inl ⟨by rfl, ?hv13⟩) (by assumption) ?_
                  case hv13 => intro w hSw; go_simp; omega
                  simp only [Act.put, List.getElem_toArray, List.getElem_cons_zero, List.getElem_cons_succ, List.setIfInBounds_toArray, List.set_cons_zero, List.set_cons_succ]
                  have HST := Lib.hid (show (⟨#[98, 108, 111, 99, 107, 32]⟩ : ByteArray) ++ S y0 ++ ⟨#[32]⟩ ++ S y1 ++ ⟨#[32]⟩ ++ S y2 = S (headL b1) by
                    rw [show (⟨#[98, 108, 111, 99, 107, 32]⟩ : ByteArray) = S blockW from rfl, show (⟨#[32]⟩ : ByteArray) = S [32] from rfl]
                    simp only [S_app]
                    rw [hy0.out, hy1.out, hy2.out]
                    unfold headL
                    simp)
                  rw [HST.out]
                  obtain ⟨z, hzz⟩ : ∃ z, ((S (headL b1)).toList == (S cur).toList) = z := ⟨_, rfl⟩
                  have hzn : ((S (headL b1)).toList != (S cur).toList) = !z := by rw [bne, hzz]
                  have HZZ := Lib.hid (show decide (headL b1 = cur) = z by rw [← hzz, ByteArray.toList_eq, ByteArray.toList_eq, S_list, S_list, Bool.eq_iff_iff]; simp)
                  refine wpAnyN_take (i := 19) (v := .bool (!z)) rfl (by kernel_rfl) (by kernel_rfl) (by kernel_rfl) (by kernel_rfl) (fun _ _ _ h => h) (Or.inl ⟨by rfl, ?be19⟩) (by assumption) ?_
                  case be19 => intro w hSw; skip; go_simp; try with_reducible rfl
                  simp only [Act.put, List.getElem_toArray, List.getElem_cons_zero, List.getElem_cons_succ, List.setIfInBounds_toArray, List.set_cons_zero, List.set_cons_succ]
                  refine wpAnyN_take (i := 20) (v := .bool (!z)) rfl (by kernel_rfl) (by kernel_rfl) (by kernel_rfl) (by kernel_rfl) (fun _ _ _ h => h) (Or.inl ⟨by rfl, ?be20⟩) (by assumption) ?_
                  case be20 => intro w hSw; skip; go_simp; try with_reducible rfl
                  simp only [Act.put, List.getElem_toArray, List.getElem_cons_zero, List.getElem_cons_succ, List.setIfInBounds_toArray, List.set_cons_zero, List.set_cons_succ]
                  refine wpAnyN_done (by kernel_rfl) ?_ _
                  clear hzz hzn hz0 hz1 hz2 hSA
                  cases z
                  · have HQ := Lib.hid (show parseV t = (zBk, 1, 3) from LnAt.fail (k := 1) HL.out.2 HTL.out HT10.out (by
                      show goP [cur] 0 zBk = _
                      rw [goP_cons, if_pos rfl, th_head, if_neg]
                      rintro ⟨_, _, h1⟩
                      rw [← hq.out, ← hb1.out] at h1
                      exact of_decide_eq_false HZZ.out h1))
                    have HR3 := Lib.hid HPA9.out.rs
                    have HK3 := Lib.hid HPA9.out.kp
                    have r0 := HR3.out.cell 0
                    have r1 := HR3.out.cell 1
                    have r2 := HR3.out.cell 2
                    have r3 := HR3.out.cell 3
                    have r4 := HR3.out.cell 4
                    have r5 := HR3.out.cell 5
                    have r6 := HR3.out.cell 6
                    have r7 := HR3.out.cell 7
                    have r8 := HR3.out.cell 8
                    have f0 := HR3.out.frozen 0
                    have f1 := HR3.out.frozen 1
                    have f2 := HR3.out.frozen 2
                    have f3 := HR3.out.frozen 3
                    have f4 := HR3.out.frozen 4
                    have f5 := HR3.out.frozen 5
                    have f6 := HR3.out.frozen 6
                    have f7 := HR3.out.frozen 7
                    have f8 := HR3.out.frozen 8
                    have rl := HR3.out.lt
                    simp at r0 r1 r2 r3 r4 r5 r6 r7 r8
                    go_wp2_with fail
                    obtain ⟨X, hX⟩ : ∃ X, Hid (X = ((((((((wa.setCell ⟨R, 0, none⟩ (.int .i64 0)).setCell ⟨R, 1, none⟩ (.string ⟨#[]⟩)).setCell ⟨R, 2, none⟩ (.int .i64 0)).setCell ⟨R, 3, none⟩ (.int .i64 0)).setCell ⟨R, 4, none⟩ (.int .i64 0)).setCell ⟨R, 5, none⟩ (.int .i64 0)).setCell ⟨R, 6, none⟩ (.string ⟨#[]⟩)).setCell ⟨R, 7, none⟩ (.int .i64 0)).setCell ⟨R, 8, none⟩ (.slice none 0 0)) := ⟨_, rfl⟩
                    rw [← hX.out]
                    clear r0 r1 r2 r3 r4 r5 r6 r7 r8 f0 f1 f2 f3 f4 f5 f6 f7 f8 rl
                    have HXR := Lib.hid (show Blk X R 28 (bkC zBk none 0 0) by
                      rw [hX.out]
                      exact ((((((((HR3.out.set_ 0 (.int .i64 0)).set_ 1 (.string ⟨#[]⟩)).set_ 2 (.int .i64 0)).set_ 3 (.int .i64 0)).set_ 4 (.int .i64 0)).set_ 5 (.int .i64 0)).set_ 6 (.string ⟨#[]⟩)).set_ 7 (.int .i64 0)).set_ 8 (.slice none 0 0))
                    have HXK := Lib.hid (show Below w.heap.size w X by
                      have hh := HRL.out
                      rw [hX.out]
                      exact ((((((((HK3.out.setCell hh _).setCell hh _).setCell hh _).setCell hh _).setCell hh _).setCell hh _).setCell hh _).setCell hh _).setCell hh _)
                    clear hX
                    have r0 := HXR.out.cell 0
                    have r1 := HXR.out.cell 1
                    have r2 := HXR.out.cell 2
                    have r3 := HXR.out.cell 3
                    have r4 := HXR.out.cell 4
                    have r5 := HXR.out.cell 5
                    have r6 := HXR.out.cell 6
                    have r7 := HXR.out.cell 7
                    have r8 := HXR.out.cell 8
                    have f0 := HXR.out.frozen 0
                    have f1 := HXR.out.frozen 1
                    have f2 := HXR.out.frozen 2
                    have f3 := HXR.out.frozen 3
                    have f4 := HXR.out.frozen 4
                    have f5 := HXR.out.frozen 5
                    have f6 := HXR.out.frozen 6
                    have f7 := HXR.out.frozen 7
                    have f8 := HXR.out.frozen 8
                    have rl := HXR.out.lt
                    simp at r0 r1 r2 r3 r4 r5 r6 r7 r8
                    refine bodyPost_ret (v := .tuple #[.agg (bkC zBk none 0 0), .int .i64 1, .int .i64 3]) (by simp only [results, Tryz.results26]; go_simp) rfl ?_
                    exact ⟨none, 0, 0, by rw [HQ.out]; rfl, by rw [HQ.out]; rfl, by rw [HQ.out]; exact World.ownsRow_nil _ _ _ _, HXK.out⟩
                  · have HGO := Lib.hid (show goP [cur] ([] : List (List UInt8)).length zBk = .ok b1 by
                      show goP [cur] 0 zBk = _
                      rw [goP_cons, if_pos rfl, th_head, ← hq.out, ← hb1.out, if_pos ⟨⟨HEN.out.1, HEN.out.2.trans (of_decide_eq_true HZ.out)⟩, hhv.out.symm, of_decide_eq_true HZZ.out⟩]
                      rfl)
                    go_wp2_with fail
                    exact ⟨⟨j + 1, j + 1, 1, [cur], [], b1, A, c, ⟨by go_num, by go_num, by go_num⟩, ⟨rfl, by omega⟩, Lib.hid ⟨rfl, HL.out.2.line HT10.out HGO.out⟩, HPA9⟩, by simp only [intOf]; omega⟩
          · have hl1 : decide ((1 : Int) < (n : Int) + 1) = true := decide_eq_true (by omega)
            have hs1 : ((1 : Int) < (n : Int) + 1) := by omega
            go_wp2_with fail
            rw [HCUR.out]
            refine (toInstr_any cur wr (by have := HCL.out; omega)).mono ?_
            rintro e w3 ⟨x, ok, rfl, hx, hb⟩
            have HP3 := Lib.hid (HP.out.next hb)
            have HX3 := Lib.hid hx
            clear hb hx HP
            go_upto_region 14 with fail
            obtain ⟨q, hq⟩ : ∃ X, Hid (X = w3.heap.size) := ⟨_, rfl⟩
            obtain ⟨w4, hw4⟩ : ∃ X, Hid (X = w3.alloc (.cells #[.int .i64 x.op, .int .i64 x.r, .int .i64 x.a, .int .i64 x.n, .string x.nm, .int .i64 x.ar] 34)) := ⟨_, rfl⟩
            rw [← hw4.out, ← hq.out]
            have HP4 := Lib.hid (show PrAt w w4 base R B b A c by rw [hw4.out]; exact HP3.out.next (bAlloc _ _))
            have HI4 := Lib.hid (show BoxI w4 q x by rw [hw4.out, hq.out]; exact BoxI.new _ x)
            clear hw4 hq HP3
            cases ok
            · have HQ := Lib.hid (show parseV t = (zBk, (n : Int) + 1, 3) from LnAt.fail (k := n + 1) HL.out.2 HTL.out HT10.out (by
                rw [HL.out.1, goP_cons, if_neg hn0, HX3.out]
                rfl))
              have HR3 := Lib.hid HP4.out.rs
              have HK3 := Lib.hid HP4.out.kp
              have r0 := HR3.out.cell 0
              have r1 := HR3.out.cell 1
              have r2 := HR3.out.cell 2
              have r3 := HR3.out.cell 3
              have r4 := HR3.out.cell 4
              have r5 := HR3.out.cell 5
              have r6 := HR3.out.cell 6
              have r7 := HR3.out.cell 7
              have r8 := HR3.out.cell 8
              have f0 := HR3.out.frozen 0
              have f1 := HR3.out.frozen 1
              have f2 := HR3.out.frozen 2
              have f3 := HR3.out.frozen 3
              have f4 := HR3.out.frozen 4
              have f5 := HR3.out.frozen 5
              have f6 := HR3.out.frozen 6
              have f7 := HR3.out.frozen 7
              have f8 := HR3.out.frozen 8
              have rl := HR3.out.lt
              simp at r0 r1 r2 r3 r4 r5 r6 r7 r8
              go_wp2_with fail
              obtain ⟨X, hX⟩ : ∃ X, Hid (X = ((((((((w4.setCell ⟨R, 0, none⟩ (.int .i64 0)).setCell ⟨R, 1, none⟩ (.string ⟨#[]⟩)).setCell ⟨R, 2, none⟩ (.int .i64 0)).setCell ⟨R, 3, none⟩ (.int .i64 0)).setCell ⟨R, 4, none⟩ (.int .i64 0)).setCell ⟨R, 5, none⟩ (.int .i64 0)).setCell ⟨R, 6, none⟩ (.string ⟨#[]⟩)).setCell ⟨R, 7, none⟩ (.int .i64 0)).setCell ⟨R, 8, none⟩ (.slice none 0 0)) := ⟨_, rfl⟩
              rw [← hX.out]
              clear r0 r1 r2 r3 r4 r5 r6 r7 r8 f0 f1 f2 f3 f4 f5 f6 f7 f8 rl
              have HXR := Lib.hid (show Blk X R 28 (bkC zBk none 0 0) by
                rw [hX.out]
                exact ((((((((HR3.out.set_ 0 (.int .i64 0)).set_ 1 (.string ⟨#[]⟩)).set_ 2 (.int .i64 0)).set_ 3 (.int .i64 0)).set_ 4 (.int .i64 0)).set_ 5 (.int .i64 0)).set_ 6 (.string ⟨#[]⟩)).set_ 7 (.int .i64 0)).set_ 8 (.slice none 0 0))
              have HXK := Lib.hid (show Below w.heap.size w X by
                have hh := HRL.out
                rw [hX.out]
                exact ((((((((HK3.out.setCell hh _).setCell hh _).setCell hh _).setCell hh _).setCell hh _).setCell hh _).setCell hh _).setCell hh _).setCell hh _)
              clear hX
              have r0 := HXR.out.cell 0
              have r1 := HXR.out.cell 1
              have r2 := HXR.out.cell 2
              have r3 := HXR.out.cell 3
              have r4 := HXR.out.cell 4
              have r5 := HXR.out.cell 5
              have r6 := HXR.out.cell 6
              have r7 := HXR.out.cell 7
              have r8 := HXR.out.cell 8
              have f0 := HXR.out.frozen 0
              have f1 := HXR.out.frozen 1
              have f2 := HXR.out.frozen 2
              have f3 := HXR.out.frozen 3
              have f4 := HXR.out.frozen 4
              have f5 := HXR.out.frozen 5
              have f6 := HXR.out.frozen 6
              have f7 := HXR.out.frozen 7
              have f8 := HXR.out.frozen 8
              have rl := HXR.out.lt
              simp at r0 r1 r2 r3 r4 r5 r6 r7 r8
              refine bodyPost_ret (v := .tuple #[.agg (bkC zBk none 0 0), .int .i64 ((n : Int) + 1), .int .i64 3]) (by simp only [results, Tryz.results26]; go_simp) rfl ?_
              exact ⟨none, 0, 0, by rw [HQ.out]; rfl, by rw [HQ.out]; rfl, by rw [HQ.out]; exact World.ownsRow_nil _ _ _ _, HXK.out⟩
            · have HGO := Lib.hid (show goP [cur] ls.length b = .ok { b with code := b.code ++ [x] } by
                rw [HL.out.1, goP_cons, if_neg hn0, HX3.out]
                rfl)
              have HBL := Lib.hid (show b.code.length ≤ 16384 by have h1 := HL.out.2.code.1; have h2 := HL.out.1; omega)
              go_upto_region 16 with fail
              have t8 := HP4.out.bb.cell 8
              have tl := HP4.out.bb.lt
              simp at t8
              obtain ⟨x0, x1, x2, x3, x4, x5⟩ := BoxI.cells HI4.out
              go_wp2_with (at_builtin; refine wpList_append_ins rfl (.tmp 47) (.tmp 49) rfl base (.slice A b.code.length c) b.code rfl (HP4.out.ow.alloc _) (w4.heap.size + 1) (some ⟨w4.heap.size, 0, none⟩) 1 1 [x] rfl (lit_in1 w4 x) ⟨Nat.le_refl _, fun h => by cases h⟩ (by have := HBL.out; omega) (by have := HP4.out.pl.2; simp; omega) ?_)
              intro v' w6 ho hg hat
              obtain ⟨A3, c3, rfl, -⟩ := own_form ho
              have HP5 := Lib.hid (HP4.out.next (bAlloc w4 (.cells #[.int .i64 x.op, .int .i64 x.r, .int .i64 x.a, .int .i64 x.n, .string x.nm, .int .i64 x.ar] 34)))
              have HNB := Lib.hid (show (Value.slice A b.code.length c).ownBlock ≠ some R ∧ (Value.slice A b.code.length c).ownBlock ≠ some B by
                have h1 := HP4.out.pl.1
                exact ⟨fun e => by have := (HP4.out.low e).1; omega, fun e => by have := (HP4.out.low e).1; omega⟩)
              have HR6 := Lib.hid (HP5.out.rs.grown hg HNB.out.1)
              have HB6 := Lib.hid (HP5.out.bb.grown hg HNB.out.2)
              have HK6 := Lib.hid (show Below w.heap.size w w6 from HP5.out.kp.grown hg HP5.out.kp.size (fun g e => by have h1 := (HP4.out.low e).1; have h2 := HP4.out.pl.1; omega))
              have HZ6 := Lib.hid (show base ≤ w6.heap.size from Nat.le_trans HP5.out.pl.2 hg.size)
              have HO6 := Lib.hid ho
              have HPL := Lib.hid HP4.out.pl.1
              clear ho hg hat t8 tl x0 x1 x2 x3 x4 x5 HP5 HP4 HI4 HNB
              have t8 := HB6.out.cell 8
              have f8 := HB6.out.frozen 8
              have tl := HB6.out.lt
              simp at t8
              go_upto_region 7 with fail
              obtain ⟨w7, hw7⟩ : ∃ X, Hid (X = w6.setCell ⟨B, 8, none⟩ (.slice A3 (b.code.length + 1) c3)) := ⟨_, rfl⟩
              rw [← hw7.out]
              have HP7 := Lib.hid (show PrAt w w7 base R B { b with code := b.code ++ [x] } A3 c3 by
                have hp := HPL.out
                have hn1 : (b.code ++ [x]).length = b.code.length + 1 := by simp
                rw [hw7.out]
                refine ⟨HR6.out.far (by show R ≠ B; omega) _, ?_, ?_, HK6.out.setCell (by show w.heap.size ≤ B; omega) _, hp, by simpa using HZ6.out⟩
                · show Blk _ B 28 (bkC { b with code := b.code ++ [x] } A3 (b.code ++ [x]).length c3)
                  rw [hn1]
                  exact HB6.out.set_ 8 (.slice A3 (b.code.length + 1) c3)
                · show World.ownsRow _ base 34 6 (.slice A3 (b.code ++ [x]).length c3) (b.code ++ [x]).length (aCs (b.code ++ [x]))
                  rw [hn1]
                  exact ownsRow_setCell_other HO6.out (fun e => by have h1 := (own_lt HO6.out e).1; have h2 : base ≤ B := h1; omega) _)
              clear hw7 HR6 HB6 HK6 HZ6 HO6 t8 f8 tl
              go_wp2_with fail
              exact ⟨⟨j + 1, j + 1, n + 1, ls ++ [cur], [], { b with code := b.code ++ [x] }, A3, c3, ⟨by go_num, by go_num, by go_num⟩, ⟨rfl, by omega⟩, Lib.hid ⟨by rw [List.length_append, HL.out.1]; rfl, HL.out.2.line HT10.out HGO.out⟩, HP7⟩, by simp only [intOf]; omega⟩
      · obtain rfl : j = t.length := by omega
        have hlj : decide ((t.length : Int) < (t.length : Int)) = false := decide_eq_false (by omega)
        have HDN := Lib.hid (HL.out.2.done HTL.out)
        have HRS := Lib.hid (HL.out.2.rest hfj)
        by_cases hf : f < t.length
        · have hlf : decide ((f : Int) < (t.length : Int)) = true := decide_eq_true (by omega)
          have HQ := Lib.hid (show parseV t = (zBk, (n : Int) + 1, 3) by rw [HDN.out, HL.out.1, if_pos (.inl (HRS.out.1 hf))])
          have HR3 := Lib.hid HP.out.rs
          have HK3 := Lib.hid HP.out.kp
          have r0 := HR3.out.cell 0
          have r1 := HR3.out.cell 1
          have r2 := HR3.out.cell 2
          have r3 := HR3.out.cell 3
          have r4 := HR3.out.cell 4
          have r5 := HR3.out.cell 5
          have r6 := HR3.out.cell 6
          have r7 := HR3.out.cell 7
          have r8 := HR3.out.cell 8
          have f0 := HR3.out.frozen 0
          have f1 := HR3.out.frozen 1
          have f2 := HR3.out.frozen 2
          have f3 := HR3.out.frozen 3
          have f4 := HR3.out.frozen 4
          have f5 := HR3.out.frozen 5
          have f6 := HR3.out.frozen 6
          have f7 := HR3.out.frozen 7
          have f8 := HR3.out.frozen 8
          have rl := HR3.out.lt
          simp at r0 r1 r2 r3 r4 r5 r6 r7 r8
          go_wp2_with fail
          obtain ⟨X, hX⟩ : ∃ X, Hid (X = ((((((((wr.setCell ⟨R, 0, none⟩ (.int .i64 0)).setCell ⟨R, 1, none⟩ (.string ⟨#[]⟩)).setCell ⟨R, 2, none⟩ (.int .i64 0)).setCell ⟨R, 3, none⟩ (.int .i64 0)).setCell ⟨R, 4, none⟩ (.int .i64 0)).setCell ⟨R, 5, none⟩ (.int .i64 0)).setCell ⟨R, 6, none⟩ (.string ⟨#[]⟩)).setCell ⟨R, 7, none⟩ (.int .i64 0)).setCell ⟨R, 8, none⟩ (.slice none 0 0)) := ⟨_, rfl⟩
          rw [← hX.out]
          clear r0 r1 r2 r3 r4 r5 r6 r7 r8 f0 f1 f2 f3 f4 f5 f6 f7 f8 rl
          have HXR := Lib.hid (show Blk X R 28 (bkC zBk none 0 0) by
            rw [hX.out]
            exact ((((((((HR3.out.set_ 0 (.int .i64 0)).set_ 1 (.string ⟨#[]⟩)).set_ 2 (.int .i64 0)).set_ 3 (.int .i64 0)).set_ 4 (.int .i64 0)).set_ 5 (.int .i64 0)).set_ 6 (.string ⟨#[]⟩)).set_ 7 (.int .i64 0)).set_ 8 (.slice none 0 0))
          have HXK := Lib.hid (show Below w.heap.size w X by
            have hh := HRL.out
            rw [hX.out]
            exact ((((((((HK3.out.setCell hh _).setCell hh _).setCell hh _).setCell hh _).setCell hh _).setCell hh _).setCell hh _).setCell hh _).setCell hh _)
          clear hX
          have r0 := HXR.out.cell 0
          have r1 := HXR.out.cell 1
          have r2 := HXR.out.cell 2
          have r3 := HXR.out.cell 3
          have r4 := HXR.out.cell 4
          have r5 := HXR.out.cell 5
          have r6 := HXR.out.cell 6
          have r7 := HXR.out.cell 7
          have r8 := HXR.out.cell 8
          have f0 := HXR.out.frozen 0
          have f1 := HXR.out.frozen 1
          have f2 := HXR.out.frozen 2
          have f3 := HXR.out.frozen 3
          have f4 := HXR.out.frozen 4
          have f5 := HXR.out.frozen 5
          have f6 := HXR.out.frozen 6
          have f7 := HXR.out.frozen 7
          have f8 := HXR.out.frozen 8
          have rl := HXR.out.lt
          simp at r0 r1 r2 r3 r4 r5 r6 r7 r8
          refine bodyPost_ret (v := .tuple #[.agg (bkC zBk none 0 0), .int .i64 ((n : Int) + 1), .int .i64 3]) (by simp only [results, Tryz.results26]; go_simp) rfl ?_
          exact ⟨none, 0, 0, by rw [HQ.out]; rfl, by rw [HQ.out]; rfl, by rw [HQ.out]; exact World.ownsRow_nil _ _ _ _, HXK.out⟩
        · have hlf : decide ((f : Int) < (t.length : Int)) = false := decide_eq_false (by omega)
          by_cases hn0 : n = 0
          · have hln : ((n : Int) == 0) = true := by simp [hn0]
            have HQ := Lib.hid (show parseV t = (zBk, (n : Int) + 1, 3) by rw [HDN.out, HL.out.1, if_pos (.inr hn0)])
            have HR3 := Lib.hid HP.out.rs
            have HK3 := Lib.hid HP.out.kp
            have r0 := HR3.out.cell 0
            have r1 := HR3.out.cell 1
            have r2 := HR3.out.cell 2
            have r3 := HR3.out.cell 3
            have r4 := HR3.out.cell 4
            have r5 := HR3.out.cell 5
            have r6 := HR3.out.cell 6
            have r7 := HR3.out.cell 7
            have r8 := HR3.out.cell 8
            have f0 := HR3.out.frozen 0
            have f1 := HR3.out.frozen 1
            have f2 := HR3.out.frozen 2
            have f3 := HR3.out.frozen 3
            have f4 := HR3.out.frozen 4
            have f5 := HR3.out.frozen 5
            have f6 := HR3.out.frozen 6
            have f7 := HR3.out.frozen 7
            have f8 := HR3.out.frozen 8
            have rl := HR3.out.lt
            simp at r0 r1 r2 r3 r4 r5 r6 r7 r8
            go_wp2_with fail
            obtain ⟨X, hX⟩ : ∃ X, Hid (X = ((((((((wr.setCell ⟨R, 0, none⟩ (.int .i64 0)).setCell ⟨R, 1, none⟩ (.string ⟨#[]⟩)).setCell ⟨R, 2, none⟩ (.int .i64 0)).setCell ⟨R, 3, none⟩ (.int .i64 0)).setCell ⟨R, 4, none⟩ (.int .i64 0)).setCell ⟨R, 5, none⟩ (.int .i64 0)).setCell ⟨R, 6, none⟩ (.string ⟨#[]⟩)).setCell ⟨R, 7, none⟩ (.int .i64 0)).setCell ⟨R, 8, none⟩ (.slice none 0 0)) := ⟨_, rfl⟩
            rw [← hX.out]
            clear r0 r1 r2 r3 r4 r5 r6 r7 r8 f0 f1 f2 f3 f4 f5 f6 f7 f8 rl
            have HXR := Lib.hid (show Blk X R 28 (bkC zBk none 0 0) by
              rw [hX.out]
              exact ((((((((HR3.out.set_ 0 (.int .i64 0)).set_ 1 (.string ⟨#[]⟩)).set_ 2 (.int .i64 0)).set_ 3 (.int .i64 0)).set_ 4 (.int .i64 0)).set_ 5 (.int .i64 0)).set_ 6 (.string ⟨#[]⟩)).set_ 7 (.int .i64 0)).set_ 8 (.slice none 0 0))
            have HXK := Lib.hid (show Below w.heap.size w X by
              have hh := HRL.out
              rw [hX.out]
              exact ((((((((HK3.out.setCell hh _).setCell hh _).setCell hh _).setCell hh _).setCell hh _).setCell hh _).setCell hh _).setCell hh _).setCell hh _)
            clear hX
            have r0 := HXR.out.cell 0
            have r1 := HXR.out.cell 1
            have r2 := HXR.out.cell 2
            have r3 := HXR.out.cell 3
            have r4 := HXR.out.cell 4
            have r5 := HXR.out.cell 5
            have r6 := HXR.out.cell 6
            have r7 := HXR.out.cell 7
            have r8 := HXR.out.cell 8
            have f0 := HXR.out.frozen 0
            have f1 := HXR.out.frozen 1
            have f2 := HXR.out.frozen 2
            have f3 := HXR.out.frozen 3
            have f4 := HXR.out.frozen 4
            have f5 := HXR.out.frozen 5
            have f6 := HXR.out.frozen 6
            have f7 := HXR.out.frozen 7
            have f8 := HXR.out.frozen 8
            have rl := HXR.out.lt
            simp at r0 r1 r2 r3 r4 r5 r6 r7 r8
            refine bodyPost_ret (v := .tuple #[.agg (bkC zBk none 0 0), .int .i64 ((n : Int) + 1), .int .i64 3]) (by simp only [results, Tryz.results26]; go_simp) rfl ?_
            exact ⟨none, 0, 0, by rw [HQ.out]; rfl, by rw [HQ.out]; rfl, by rw [HQ.out]; exact World.ownsRow_nil _ _ _ _, HXK.out⟩
          · have hln : ((n : Int) == 0) = false := by simp [hn0]
            have HQV := Lib.hid (show parseV t = if vaP b then (b, 0, 0) else (zBk, 0, 1) by
              rw [HDN.out, HL.out.1, if_neg]
              rintro (h | h)
              · exact hf (HRS.out.2 h)
              · exact hn0 h)
            have HBL := Lib.hid (show b.code.length ≤ 16384 by have h1 := HL.out.2.code.1; have h2 := HL.out.1; omega)
            have s0 := HP.out.bb.cell 0
            have s1 := HP.out.bb.cell 1
            have s2 := HP.out.bb.cell 2
            have s3 := HP.out.bb.cell 3
            have s4 := HP.out.bb.cell 4
            have s5 := HP.out.bb.cell 5
            have s6 := HP.out.bb.cell 6
            have s7 := HP.out.bb.cell 7
            have s8 := HP.out.bb.cell 8
            have f0 := HP.out.bb.frozen 0
            have f1 := HP.out.bb.frozen 1
            have f2 := HP.out.bb.frozen 2
            have f3 := HP.out.bb.frozen 3
            have f4 := HP.out.bb.frozen 4
            have f5 := HP.out.bb.frozen 5
            have f6 := HP.out.bb.frozen 6
            have f7 := HP.out.bb.frozen 7
            have f8 := HP.out.bb.frozen 8
            have sl := HP.out.bb.lt
            simp at s0 s1 s2 s3 s4 s5 s6 s7 s8
            go_wp2_with fail
            refine (Valid_any b A c wr (own_ins HP.out.ow (by have := HBL.out; omega))).mono ?_
            rintro e w3 ⟨rfl, hb⟩
            have HP3 := Lib.hid (HP.out.next hb)
            clear s0 s1 s2 s3 s4 s5 s6 s7 s8 f0 f1 f2 f3 f4 f5 f6 f7 f8 sl
            clear hb HP
            have HR3 := Lib.hid HP3.out.rs
            have HK3 := Lib.hid HP3.out.kp
            cases hv : vaP b
            · have HQ := Lib.hid (show parseV t = (zBk, 0, 1) by rw [HQV.out, hv]; rfl)
              have r0 := HR3.out.cell 0
              have r1 := HR3.out.cell 1
              have r2 := HR3.out.cell 2
              have r3 := HR3.out.cell 3
              have r4 := HR3.out.cell 4
              have r5 := HR3.out.cell 5
              have r6 := HR3.out.cell 6
              have r7 := HR3.out.cell 7
              have r8 := HR3.out.cell 8
              have f0 := HR3.out.frozen 0
              have f1 := HR3.out.frozen 1
              have f2 := HR3.out.frozen 2
              have f3 := HR3.out.frozen 3
              have f4 := HR3.out.frozen 4
              have f5 := HR3.out.frozen 5
              have f6 := HR3.out.frozen 6
              have f7 := HR3.out.frozen 7
              have f8 := HR3.out.frozen 8
              have rl := HR3.out.lt
              simp at r0 r1 r2 r3 r4 r5 r6 r7 r8
              go_wp2_with fail
              obtain ⟨X, hX⟩ : ∃ X, Hid (X = ((((((((w3.setCell ⟨R, 0, none⟩ (.int .i64 0)).setCell ⟨R, 1, none⟩ (.string ⟨#[]⟩)).setCell ⟨R, 2, none⟩ (.int .i64 0)).setCell ⟨R, 3, none⟩ (.int .i64 0)).setCell ⟨R, 4, none⟩ (.int .i64 0)).setCell ⟨R, 5, none⟩ (.int .i64 0)).setCell ⟨R, 6, none⟩ (.string ⟨#[]⟩)).setCell ⟨R, 7, none⟩ (.int .i64 0)).setCell ⟨R, 8, none⟩ (.slice none 0 0)) := ⟨_, rfl⟩
              rw [← hX.out]
              clear r0 r1 r2 r3 r4 r5 r6 r7 r8 f0 f1 f2 f3 f4 f5 f6 f7 f8 rl
              have HXR := Lib.hid (show Blk X R 28 (bkC zBk none 0 0) by
                rw [hX.out]
                exact ((((((((HR3.out.set_ 0 (.int .i64 0)).set_ 1 (.string ⟨#[]⟩)).set_ 2 (.int .i64 0)).set_ 3 (.int .i64 0)).set_ 4 (.int .i64 0)).set_ 5 (.int .i64 0)).set_ 6 (.string ⟨#[]⟩)).set_ 7 (.int .i64 0)).set_ 8 (.slice none 0 0))
              have HXK := Lib.hid (show Below w.heap.size w X by
                have hh := HRL.out
                rw [hX.out]
                exact ((((((((HK3.out.setCell hh _).setCell hh _).setCell hh _).setCell hh _).setCell hh _).setCell hh _).setCell hh _).setCell hh _).setCell hh _)
              clear hX
              have r0 := HXR.out.cell 0
              have r1 := HXR.out.cell 1
              have r2 := HXR.out.cell 2
              have r3 := HXR.out.cell 3
              have r4 := HXR.out.cell 4
              have r5 := HXR.out.cell 5
              have r6 := HXR.out.cell 6
              have r7 := HXR.out.cell 7
              have r8 := HXR.out.cell 8
              have f0 := HXR.out.frozen 0
              have f1 := HXR.out.frozen 1
              have f2 := HXR.out.frozen 2
              have f3 := HXR.out.frozen 3
              have f4 := HXR.out.frozen 4
              have f5 := HXR.out.frozen 5
              have f6 := HXR.out.frozen 6
              have f7 := HXR.out.frozen 7
              have f8 := HXR.out.frozen 8
              have rl := HXR.out.lt
              simp at r0 r1 r2 r3 r4 r5 r6 r7 r8
              refine bodyPost_ret (v := .tuple #[.agg (bkC zBk none 0 0), .int .i64 0, .int .i64 1]) (by simp only [results, Tryz.results26]; go_simp) rfl ?_
              exact ⟨none, 0, 0, by rw [HQ.out]; rfl, by rw [HQ.out]; rfl, by rw [HQ.out]; exact World.ownsRow_nil _ _ _ _, HXK.out⟩
            · have HQ := Lib.hid (show parseV t = (b, 0, 0) by rw [HQV.out, hv]; rfl)
              have r0 := HR3.out.cell 0
              have r1 := HR3.out.cell 1
              have r2 := HR3.out.cell 2
              have r3 := HR3.out.cell 3
              have r4 := HR3.out.cell 4
              have r5 := HR3.out.cell 5
              have r6 := HR3.out.cell 6
              have r7 := HR3.out.cell 7
              have r8 := HR3.out.cell 8
              have f0 := HR3.out.frozen 0
              have f1 := HR3.out.frozen 1
              have f2 := HR3.out.frozen 2
              have f3 := HR3.out.frozen 3
              have f4 := HR3.out.frozen 4
              have f5 := HR3.out.frozen 5
              have f6 := HR3.out.frozen 6
              have f7 := HR3.out.frozen 7
              have f8 := HR3.out.frozen 8
              have rl := HR3.out.lt
              simp at r0 r1 r2 r3 r4 r5 r6 r7 r8
              have s0 := HP3.out.bb.cell 0
              have s1 := HP3.out.bb.cell 1
              have s2 := HP3.out.bb.cell 2
              have s3 := HP3.out.bb.cell 3
              have s4 := HP3.out.bb.cell 4
              have s5 := HP3.out.bb.cell 5
              have s6 := HP3.out.bb.cell 6
              have s7 := HP3.out.bb.cell 7
              have s8 := HP3.out.bb.cell 8
              have h0 := HP3.out.bb.frozen 0
              have h1 := HP3.out.bb.frozen 1
              have h2 := HP3.out.bb.frozen 2
              have h3 := HP3.out.bb.frozen 3
              have h4 := HP3.out.bb.frozen 4
              have h5 := HP3.out.bb.frozen 5
              have h6 := HP3.out.bb.frozen 6
              have h7 := HP3.out.bb.frozen 7
              have h8 := HP3.out.bb.frozen 8
              have sl := HP3.out.bb.lt
              simp at s0 s1 s2 s3 s4 s5 s6 s7 s8
              have hne : ¬ R = B := by have := HP3.out.pl.1; omega
              have hne2 : ¬ B = R := by have := HP3.out.pl.1; omega
              go_wp2_with fail
              obtain ⟨X, hX⟩ : ∃ X, Hid (X = ((((((((w3.setCell ⟨R, 0, none⟩ (.int .i64 b.id)).setCell ⟨R, 1, none⟩ (.string b.pn)).setCell ⟨R, 2, none⟩ (.int .i64 b.par)).setCell ⟨R, 3, none⟩ (.int .i64 b.paux)).setCell ⟨R, 4, none⟩ (.int .i64 b.kk)).setCell ⟨R, 5, none⟩ (.int .i64 b.kn)).setCell ⟨R, 6, none⟩ (.string b.knm)).setCell ⟨R, 7, none⟩ (.int .i64 b.kar)).setCell ⟨R, 8, none⟩ (.slice A b.code.length c)) := ⟨_, rfl⟩
              rw [← hX.out]
              clear r0 r1 r2 r3 r4 r5 r6 r7 r8 f0 f1 f2 f3 f4 f5 f6 f7 f8 rl
              clear s0 s1 s2 s3 s4 s5 s6 s7 s8 h0 h1 h2 h3 h4 h5 h6 h7 h8 sl
              have HXR := Lib.hid (show Blk X R 28 (bkC b A b.code.length c) by
                rw [hX.out]
                exact ((((((((HR3.out.set_ 0 (.int .i64 b.id)).set_ 1 (.string b.pn)).set_ 2 (.int .i64 b.par)).set_ 3 (.int .i64 b.paux)).set_ 4 (.int .i64 b.kk)).set_ 5 (.int .i64 b.kn)).set_ 6 (.string b.knm)).set_ 7 (.int .i64 b.kar)).set_ 8 (.slice A b.code.length c))
              have HXK := Lib.hid (show Below w.heap.size w X by
                have hh := HRL.out
                rw [hX.out]
                exact ((((((((HK3.out.setCell hh _).setCell hh _).setCell hh _).setCell hh _).setCell hh _).setCell hh _).setCell hh _).setCell hh _).setCell hh _)
              have HXO := Lib.hid (show X.ownsRow w.heap.size 34 6 (.slice A b.code.length c) b.code.length (aCs b.code) by
                have hp := HP3.out.pl.1
                have hh : (Value.slice A b.code.length c).ownBlock ≠ some R := fun e => by have := (HP3.out.low e).1; omega
                refine own_base (base := base) ?_ (by omega)
                rw [hX.out]
                exact ownsRow_setCell_other (ownsRow_setCell_other (ownsRow_setCell_other (ownsRow_setCell_other (ownsRow_setCell_other (ownsRow_setCell_other (ownsRow_setCell_other (ownsRow_setCell_other (ownsRow_setCell_other HP3.out.ow hh _) hh _) hh _) hh _) hh _) hh _) hh _) hh _) hh _)
              clear hX
              have r0 := HXR.out.cell 0
              have r1 := HXR.out.cell 1
              have r2 := HXR.out.cell 2
              have r3 := HXR.out.cell 3
              have r4 := HXR.out.cell 4
              have r5 := HXR.out.cell 5
              have r6 := HXR.out.cell 6
              have r7 := HXR.out.cell 7
              have r8 := HXR.out.cell 8
              have f0 := HXR.out.frozen 0
              have f1 := HXR.out.frozen 1
              have f2 := HXR.out.frozen 2
              have f3 := HXR.out.frozen 3
              have f4 := HXR.out.frozen 4
              have f5 := HXR.out.frozen 5
              have f6 := HXR.out.frozen 6
              have f7 := HXR.out.frozen 7
              have f8 := HXR.out.frozen 8
              have rl := HXR.out.lt
              simp at r0 r1 r2 r3 r4 r5 r6 r7 r8
              refine bodyPost_ret (v := .tuple #[.agg (bkC b A b.code.length c), .int .i64 0, .int .i64 0]) (by simp only [results, Tryz.results26]; go_simp) rfl ?_
              exact ⟨A, b.code.length, c, by rw [HQ.out], by rw [HQ.out], by rw [HQ.out]; exact HXO.out, HXK.out⟩
end Go.Proofs.YtbipeakinmbdiaaGreatDoor
