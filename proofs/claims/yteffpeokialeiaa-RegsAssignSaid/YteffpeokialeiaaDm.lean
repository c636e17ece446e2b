/-
  The walk of the reference's numbers (f31).
-/
import Derived.Test.YteffpeokialeiaaDl
import Derived.Test.YteffpeokialeiaaAp
import Derived.Outline
namespace Go.Proofs.Yteffpeokialeiaa
open Go.RowKit

theorem info4' : ∃ i, Try.prog.info? 4 = some i ∧ i.zero = some (.bool false) ∧ i.size = 1 ∧ i.bytes = 1 := info_parts info4
theorem under70 : Try.prog.underlying 70 = some (.slice 4) := by kernel_rfl
def bCs (l : List Bool) : List Value := l.map Value.bool
theorem bCs_len (l : List Bool) : (bCs l).length = l.length := List.length_map _
theorem bCs_new (n : Nat) : (madeCells (Value.bool false).cells (n * 1)).toList = bCs (List.replicate n false) := by
  unfold bCs
  refine List.ext_getElem (by simp [madeCells]) (fun i h1 h2 => ?_)
  simp [madeCells, Value.cells, Nat.mod_one]
/-- what a map tells of the registers above base -/
def LaB (w wr : World) (g : Nat) (base : Int) (f : Int → Option Value) : Prop := ∃ M, LaAt w wr g M ∧ ∀ y, base < y → M y = f y
section
variable {w wr w2 : World} {g : Nat} {base : Int} {f f' : Int → Option Value}
theorem LaB.later (h : LaB w wr g base f) (hb : Below wr.heap.size wr w2) : LaB w w2 g base f := h.elim fun M h => ⟨M, h.1.later hb, h.2⟩
theorem LaB.grown {B : Nat} {row : Option Nat} (h : LaB w wr g base f) (hg : wr.grownBy w2 row) (hr : ∀ k, row = some k → B ≤ k) (hB : g < B) : LaB w w2 g base f := h.elim fun M h => ⟨M, h.1.grown hg hr hB, h.2⟩
theorem LaB.congr (h : LaB w wr g base f) (e : ∀ y, base < y → f' y = f y) : LaB w wr g base f' := h.elim fun M h => ⟨M, h.1, fun y hy => (h.2 y hy).trans (e y hy).symm⟩
theorem LaB.size (h : LaB w wr g base f) : w.heap.size ≤ wr.heap.size := h.elim fun _ h => h.1.2.2.size
theorem LaB.below (h : LaB w wr g base f) : Below w.heap.size w wr := h.elim fun _ h => h.1.2.2
end
theorem first_not (p : Nat → Bool) : ∀ (d k : Nat), p (k + d) = false → ∃ m, k ≤ m ∧ m ≤ k + d ∧ p m = false ∧ ∀ q, k ≤ q → q < m → p q = true
  | 0, k, h => ⟨k, Nat.le_refl _, Nat.le_refl _, h, fun q h1 h2 => by omega⟩
  | d + 1, k, h => by
    cases hk : p k with
    | false => exact ⟨k, Nat.le_refl _, by omega, hk, fun q h1 h2 => by omega⟩
    | true =>
      obtain ⟨m, h1, h2, h3, h4⟩ := first_not p d (k + 1) (by rw [show k + 1 + d = k + (d + 1) by omega]; exact h)
      refine ⟨m, by omega, by omega, h3, fun q h5 h6 => ?_⟩
      rcases Nat.lt_or_ge k q with h7 | h7
      · exact h4 q h7 h6
      · rw [show q = k by omega]; exact hk
theorem has_snoc2 (ts : List Tm) (t : Tm) (y : Int) : has (ts ++ [t]) y = (y == t.x || has ts y) := by
  rw [has_snoc, Bool.or_comm, show (t.x == y) = (y == t.x) from by rw [Bool.eq_iff_iff, beq_iff_eq, beq_iff_eq]; exact eq_comm]
/-- there is a number that is not taken -/
theorem TkOk.free {base : Int} {k : Nat} {wr : List Int} {ts : List Tm} {bs : List Bool} (h : TkOk base k wr ts bs) (hl : bs.length = ts.length + 2) :
    ∃ m, 1 ≤ m ∧ m ≤ ts.length + 1 ∧ bs[m]? = some false ∧ (∀ q : Nat, 1 ≤ q → q < m → bs[q]? = some true) ∧ least base ((ts.filter (Tm.used · k wr)).map Tm.n) = base + m := by
  obtain ⟨m, h1, h2, h3, h4⟩ := first_not (fun q => bs[q]? == some true) bs.length 1 (by simp)
  have h4' : ∀ q : Nat, 1 ≤ q → q < m → bs[q]? = some true := fun q ha hb => by simpa using h4 q ha hb
  have hm : m ≤ ts.length + 1 := by
    have := length_of_all (ts.map Tm.n) (m - 1) (base + 1) (fun y ha hb => by
      obtain ⟨q, hq⟩ : ∃ q : Nat, y = base + q := ⟨(y - base).toNat, by omega⟩
      obtain ⟨t, ht, _, e⟩ := (h q).1 (h4' q (by omega) (by omega))
      exact List.mem_map.2 ⟨t, ht, by omega⟩)
    rw [List.length_map] at this
    omega
  have hb : bs[m]? = some false := by
    have h5 : m < bs.length := by omega
    rw [List.getElem?_eq_getElem h5] at h3 ⊢
    simpa using h3
  exact ⟨m, h1, hm, hb, h4', least_tk h h1 h4' hb⟩
def RetTs (w : World) (ts : List Tm) (e : Ending) (w' : World) : Prop := ∃ v, e = .returned v ∧ w'.ownsRow w.heap.size 50 4 v ts.length (tCs ts) ∧ Below w.heap.size w w'
theorem la_get {l : List In} {base : Int} {lf : Int → Option Value} (h : ∀ y, base < y → lf y = lastsF l base y) {z : Int} (hz : base < z) : (lf z).getD (.int .i64 0) = .int .i64 (laOf l base z) := by
  rw [h z hz]
  unfold lastsF laOf lastO
  rw [last_eq base l 0 (fun _ => none) (fun _ => none) (fun _ => rfl) z]
  cases lastOFrom base l 0 (fun _ => none) z <;> rfl
set_option maxRecDepth 100000 in
set_option maxHeartbeats 1000000 in
theorem numbers_any (A : Option Addr) (n c : Nat) (l : List In) (base : Int) (w : World) (ha : InsAt w w.heap.size A n l) (hn : n ≤ 60) (hb0 : 0 ≤ base) (hb1 : base ≤ 4096) :
    Calls Try.prog 31 #[.slice A n c, .int .i64 base] w (RetTs w (tsOf l base)) := by
  have HA := Lib.hid ha
  clear ha
  have hmm := @run_makeMap Try.prog
  obtain ⟨_, i4⟩ := info4'
  go_enter Try.func31, Try.ntmps31
  go_wp2_with fail
  go_loopw [6] (fun i wr => ∃ (k : Nat) (f : Int → Option Value), i = .int .i64 k ∧ k ≤ n ∧ Hid (LaB w wr w.heap.size base f) ∧ Hid (lastFrom base (l.drop k) k f = lastsF l base)) (fun i _ => n - (intOf i).toNat)
  case atStart => exact ⟨0, fun _ => none, rfl, Nat.zero_le _, Lib.hid ⟨_, ⟨MapI.new w, Nat.le_refl _, bAlloc _ _⟩, fun _ _ => rfl⟩, Lib.hid rfl⟩
  case round =>
    obtain ⟨k, f, rfl, hk, HR, HD⟩ := hrel
    by_cases hlt : k < n
    · obtain ⟨b, off, x, rfl, hbb, hx, hcs⟩ := HA.out.at hlt
      have hS : (fun w' => ICells w' b (off + k * 6) x) wr := hcs.below hbb HR.out.below
      have hdr := last_drop base l f k x hx
      have HX := Lib.hid (And.intro hx hdr)
      have hz : b < wr.heap.size := by have := HR.out.size; omega
      have hz1 : w.heap.size < wr.heap.size := HR.out.elim fun M h => h.1.1.lt
      clear hx hdr hcs
      go_upto_region 5 with (fail)
      obtain ⟨W1, HW1⟩ : ∃ X, Hid (X = wr.drew) := ⟨_, Lib.hid rfl⟩
      have hd0 : Below wr.heap.size wr W1 := by rw [HW1.out]; exact bDrew wr
      have HR1 := Lib.hid (HR.out.later hd0)
      have hS0 : (fun w' => ICells w' b (off + k * 6) x) W1 := hS.below hz hd0
      have hz0 := Nat.lt_of_lt_of_le hz hd0.size
      have hlr := rd_len x
      have hz1W : w.heap.size < W1.heap.size := Nat.lt_of_lt_of_le hz1 hd0.size
      have hlw := wr_len2 x
      clear hS hd0
      refine wp_region_N (fun w' => ICells w' b (off + k * 6) x) (fun _ => true) (by kernel_rfl) ?_
      rw [← HW1.out]
      clear HW1
      refine wpAnyN_take (i := 0) (v := ?v1) rfl (by kernel_rfl) (by kernel_rfl) (by kernel_rfl) (by kernel_rfl) (fun _ _ _ h => h) (Or.inl ⟨by rfl, ?hy1⟩) (by assumption) ?_
      case hy1 => intro w hSw; obtain ⟨i0, i1, i2, i3, i4, i5⟩ := hSw; go_simp; try with_reducible rfl
      simp only [Act.put, List.getElem_toArray, List.getElem_cons_zero, List.setIfInBounds_toArray, List.set_cons_zero, List.set_cons_succ]
      refine wpAnyN_take (i := 1) (v := ?v2) rfl (by kernel_rfl) (by kernel_rfl) (by kernel_rfl) (by kernel_rfl) (fun _ _ _ h => h) (Or.inl ⟨by rfl, ?hy2⟩) (by assumption) ?_
      case hy2 => intro w hSw; obtain ⟨i0, i1, i2, i3, i4, i5⟩ := hSw; go_simp; try with_reducible rfl
      simp only [Act.put, List.getElem_toArray, List.getElem_cons_zero, List.getElem_cons_succ, List.setIfInBounds_toArray, List.set_cons_zero, List.set_cons_succ]
      refine wpAnyN_take (i := 2) (v := ?v3) rfl (by kernel_rfl) (by kernel_rfl) (by kernel_rfl) (by kernel_rfl) (fun _ _ _ h => h) (Or.inl ⟨by rfl, ?hy3⟩) (by assumption) ?_
      case hy3 => intro w hSw; obtain ⟨i0, i1, i2, i3, i4, i5⟩ := hSw; go_simp; try with_reducible rfl
      simp only [Act.put, List.getElem_toArray, List.getElem_cons_zero, List.getElem_cons_succ, List.setIfInBounds_toArray, List.set_cons_zero, List.set_cons_succ]
      refine wpAnyN_take (i := 3) (v := ?v4) rfl (by kernel_rfl) (by kernel_rfl) (by kernel_rfl) (by kernel_rfl) (fun _ _ _ h => h) (Or.inl ⟨by rfl, ?hy4⟩) (by assumption) ?_
      case hy4 => intro w hSw; obtain ⟨i0, i1, i2, i3, i4, i5⟩ := hSw; go_simp; try with_reducible rfl
      simp only [Act.put, List.getElem_toArray, List.getElem_cons_zero, List.getElem_cons_succ, List.setIfInBounds_toArray, List.set_cons_zero, List.set_cons_succ]
      refine wpAnyN_take (i := 5) (v := ?v5) rfl (by kernel_rfl) (by kernel_rfl) (by kernel_rfl) (by kernel_rfl) (fun _ _ _ h => h) (Or.inl ⟨by rfl, ?hy5⟩) (by assumption) ?_
      case hy5 => intro w hSw; obtain ⟨i0, i1, i2, i3, i4, i5⟩ := hSw; go_simp; try with_reducible rfl
      simp only [Act.put, List.getElem_toArray, List.getElem_cons_zero, List.getElem_cons_succ, List.setIfInBounds_toArray, List.set_cons_zero, List.set_cons_succ]
      refine wpAnyN_take (i := 6) (v := ?v6) rfl (by kernel_rfl) (by kernel_rfl) (by kernel_rfl) (by kernel_rfl) (fun _ _ _ h => h) (Or.inl ⟨by rfl, ?hy6⟩) (by assumption) ?_
      case hy6 => intro w hSw; obtain ⟨i0, i1, i2, i3, i4, i5⟩ := hSw; go_simp; try with_reducible rfl
      simp only [Act.put, List.getElem_toArray, List.getElem_cons_zero, List.getElem_cons_succ, List.setIfInBounds_toArray, List.set_cons_zero, List.set_cons_succ]
      refine wpAnyN_take (i := 7) (v := ?v7) rfl (by kernel_rfl) (by kernel_rfl) (by kernel_rfl) (by kernel_rfl) (fun _ _ _ h => h) (Or.inl ⟨by rfl, ?hy7⟩) (by assumption) ?_
      case hy7 => intro w hSw; obtain ⟨i0, i1, i2, i3, i4, i5⟩ := hSw; go_simp; try with_reducible rfl
      simp only [Act.put, List.getElem_toArray, List.getElem_cons_zero, List.getElem_cons_succ, List.setIfInBounds_toArray, List.set_cons_zero, List.set_cons_succ]
      refine wpAnyN_take (i := 8) (v := ?v8) rfl (by kernel_rfl) (by kernel_rfl) (by kernel_rfl) (by kernel_rfl) (fun _ _ _ h => h) (Or.inl ⟨by rfl, ?hy8⟩) (by assumption) ?_
      case hy8 => intro w hSw; obtain ⟨i0, i1, i2, i3, i4, i5⟩ := hSw; go_simp; try with_reducible rfl
      simp only [Act.put, List.getElem_toArray, List.getElem_cons_zero, List.getElem_cons_succ, List.setIfInBounds_toArray, List.set_cons_zero, List.set_cons_succ]
      refine wpAnyN_one (i := 4) (by kernel_rfl) rfl (fun K hK => ?_)
      simp only [List.getElem_toArray, List.getElem_cons_zero, List.getElem_cons_succ]
      go_simp
      refine (Reads_any x _).mono ?_
      rintro e w2 ⟨v2, rfl, ho⟩
      have hS2 : (fun w' => ICells w' b (off + k * 6) x) w2 := hS0.below hz0 ho.2
      have HO2 := Lib.hid ho.1
      have HR2 := Lib.hid (HR1.out.later ho.2)
      have hz2 := Nat.lt_of_lt_of_le hz0 ho.2.size
      have hq1 : W1.heap.size ≤ w2.heap.size := ho.2.size
      clear ho
      refine hK _ _ (fun _ => hS2) ?_
      (try simp only [Act.put, List.setIfInBounds_toArray, List.set_cons_zero, List.set_cons_succ])
      refine wpAnyN_one (i := 9) (by kernel_rfl) rfl (fun K hK => ?_)
      simp only [List.getElem_toArray, List.getElem_cons_zero, List.getElem_cons_succ]
      go_simp
      refine (Writes_any x _).mono ?_
      rintro e w3 ⟨v3, rfl, ho⟩
      obtain ⟨A3, c3, rfl, hcap3⟩ := own_form ho.1
      have HI3 := Lib.hid (own_ints ho.1 (by omega))
      have HC3 := Lib.hid hcap3.2
      have HO3 := Lib.hid (own_next HO2.out ho.2)
      have hS3 : (fun w' => ICells w' b (off + k * 6) x) w3 := hS2.below hz2 ho.2
      have HR3 := Lib.hid (HR2.out.later ho.2)
      have hz3 := Nat.lt_of_lt_of_le hz2 ho.2.size
      have hq2 : w2.heap.size ≤ w3.heap.size := ho.2.size
      clear ho hcap3
      refine hK _ _ (fun _ => hS3) ?_
      (try simp only [Act.put, List.setIfInBounds_toArray, List.set_cons_zero, List.set_cons_succ])
      refine wpAnyN_one (i := 10) (by kernel_rfl) rfl (fun K hK => ?_)
      simp only [List.getElem_toArray, List.getElem_cons_zero, List.getElem_cons_succ]
      rw [if_pos (by rfl)]
      refine wp_append_ints _ _ rfl W1.heap.size v2 (rdOf x).length (rdOf x) rfl HO3.out A3 (wrOf x).length c3 w3.heap.size (wrOf x) rfl HC3.out HI3.out (by omega) (by omega) ?_
      intro v4 w4 ho4 hg4
      have hS4 : (fun w' => ICells w' b (off + k * 6) x) w4 := hS3.below hz0 (Below.grown (Below.refl _ _) hg4 (by omega) (fun g e => (own_lt HO3.out e).1))
      have HR4 := Lib.hid (HR3.out.grown hg4 (fun g e => (own_lt HO3.out e).1) hz1W)
      obtain ⟨A4, c4, rfl, hcap4⟩ := own_form ho4
      have HO4 := Lib.hid ho4
      clear ho4 hg4 hcap4
      refine hK _ _ (fun _ => hS4) ?_
      (try simp only [Act.put, List.setIfInBounds_toArray, List.set_cons_zero, List.set_cons_succ])
      refine wpAnyN_one (i := 11) (by kernel_rfl) rfl (fun K hK => ?_)
      simp only [List.getElem_toArray, List.getElem_cons_zero, List.getElem_cons_succ]
      go_simp
      refine hK _ _ (fun _ => hS4) ?_
      (try simp only [Act.put, List.setIfInBounds_toArray, List.set_cons_zero, List.set_cons_succ])
      refine wpAnyN_done (by kernel_rfl) ?_ _
      have hlen : (rdOf x ++ wrOf x).length = (rdOf x).length + (wrOf x).length := List.length_append
      have HLN := Lib.hid hlen
      clear hlen hS0 hS2 hS3 hS4
      go_wp2_with fail
      have HLP := Lib.hid (show w.heap.size < W1.heap.size from hz1W)
      go_loopw [8] (fun i wj => ∃ j : Nat, i = .int .i64 j ∧ j ≤ (rdOf x).length + (wrOf x).length ∧ Hid (LaB w wj w.heap.size base (lastG base f k ((rdOf x ++ wrOf x).take j))) ∧ Hid (wj.ownsRow W1.heap.size 3 1 (.slice A4 ((rdOf x).length + (wrOf x).length) c4) ((rdOf x).length + (wrOf x).length) (iCs (rdOf x ++ wrOf x)))) (fun i _ => (rdOf x).length + (wrOf x).length - (intOf i).toNat)
      case atStart => exact ⟨0, rfl, Nat.zero_le _, Lib.hid (HR4.out.congr fun y _ => by rw [List.take_zero, lastG_nil]), HO4⟩
      case round =>
        obtain ⟨j, rfl, hj, HJ, HO⟩ := hrel
        by_cases hjl : j < (rdOf x).length + (wrOf x).length
        · obtain ⟨b4, off4, z, rfl, hb4, hz, hcz⟩ := (own_ints HO.out (by omega)).at hjl
          have HZ := Lib.hid hz
          clear hz
          obtain ⟨M, hM, hMe⟩ := HJ.out
          obtain ⟨w5, hrun, hM5, hg5, hz5⟩ := hM.1.update under59 z (.int .i64 k)
          have HJ5 : Hid (LaB w w5 w.heap.size base (lastG base f k ((rdOf x ++ wrOf x).take (j + 1)))) := Lib.hid ⟨_, ⟨hM5, Nat.le_refl _, hM.2.2.grown hg5 hM.2.2.size (fun g e => by injection e with e; omega)⟩, fun y hy => by
            rw [lastG_snoc HZ.out]
            by_cases e : y = z
            · rw [if_pos e, if_pos ⟨e, e ▸ hy⟩]
            · rw [if_neg e, if_neg (fun h => e h.1), hMe y hy]⟩
          have HO5 := Lib.hid (own_stay HO.out fun g e => hg5.block g (own_lt HO.out e).2 (by have := (own_lt HO.out e).1; have := HLP.out; intro e2; injection e2 with e2; omega))
          clear hM hMe hM5 hg5 hz5
          go_wp2_with fail
          exact ⟨⟨j + 1, by go_num, by omega, HJ5, HO5⟩, by simp [intOf]; omega⟩
        · have HJ5 : Hid (LaB w wr w.heap.size base (lastG base f k (rdOf x ++ wrOf x))) := by
            have := HJ.out
            rw [List.take_of_length_le (by rw [HLN.out]; omega)] at this
            exact Lib.hid this
          go_wp2_with fail
          exact ⟨⟨k + 1, _, by go_num, by omega, HJ5, Lib.hid (by rw [← HX.out.2]; exact HD.out)⟩, by simp [intOf]; omega⟩
    · have HE : Hid (f = lastsF l base) := Lib.hid (by rw [← HD.out, List.drop_of_length_le (by have := HA.out.len; omega)]; rfl)
      have HBE := Lib.hid HR.out.below
      obtain ⟨lf, HL0⟩ : ∃ lf, Hid (LaAt w wr w.heap.size lf ∧ ∀ y, base < y → lf y = lastsF l base y) := HR.out.elim fun M h => ⟨M, Lib.hid ⟨h.1, fun y hy => by rw [h.2 y hy, HE.out]⟩⟩
      clear HR HD HE
      go_wp2_with fail
      obtain ⟨gm, hgm⟩ : ∃ g, Hid (g = wr.heap.size) := ⟨_, Lib.hid rfl⟩
      rw [← hgm.out]
      go_loopw [9, 11] (fun v i wr => ∃ (k : Nat) (ts : List Tm), i = .int .i64 k ∧ k ≤ n ∧ Hid (NuAt w wr w.heap.size gm lf base v ts (has ts)) ∧ Hid (TsOk base ts (2 * k)) ∧ Hid (numFrom (laOf l base) base k (segOf (l.drop k)) ts = tsOf l base)) (fun _ i _ => n - (intOf i).toNat)
      case atStart => exact ⟨0, [], rfl, Nat.zero_le _, Lib.hid ⟨⟨HL0.out.1.1.alloc _, by rw [hgm.out]; exact Nat.ne_of_lt HL0.out.1.1.lt, by rw [hgm.out]; exact HBE.out.size⟩, ⟨_, by rw [hgm.out]; exact MapI.new _, fun _ _ => rfl⟩, World.ownsRow_nil _ _ _ _, bNext HBE.out (bAlloc _ _)⟩, Lib.hid (TsOk.nil base), Lib.hid rfl⟩
      case round =>
        obtain ⟨k, ts, rfl, hk, HN, HT, HD⟩ := hrel
        by_cases hlt : k < n
        · obtain ⟨b, off, x, rfl, hbb, hx, hcs⟩ := HA.out.at hlt
          obtain ⟨q0, q1, q2, q3, q4, q5⟩ := hcs.below hbb HN.out.2.2.2
          have HX := Lib.hid (from_drop (la := laOf l base) (base := base) hx ts)
          have hlw := wr_len2 x
          clear hx hcs
          go_wp2_with fail
          refine (Writes_any x _).mono ?_
          rintro e w2 ⟨v2, rfl, ho⟩
          have HO2 := Lib.hid (own_base ho.1 HN.out.2.2.2.size)
          have HN2 := Lib.hid (HN.out.later ho.2)
          clear ho q0 q1 q2 q3 q4 q5
          obtain ⟨A4, c4, rfl, _⟩ := own_form HO2.out
          go_wp2_with fail
          go_loopw [9, 13] (fun v i wr => ∃ (j : Nat) (ts2 : List Tm), i = .int .i64 j ∧ j ≤ (wrOf x).length ∧ Hid (NuAt w wr w.heap.size gm lf base v ts2 (has ts2)) ∧ Hid (wr.ownsRow w.heap.size 3 1 (.slice A4 (wrOf x).length c4) (wrOf x).length (iCs (wrOf x))) ∧ Hid (TsOk base ts2 (2 * k + j)) ∧ Hid (((wrOf x).drop j).foldl (numStep (laOf l base) base k (wrOf x)) ts2 = (wrOf x).foldl (numStep (laOf l base) base k (wrOf x)) ts)) (fun _ i _ => (wrOf x).length - (intOf i).toNat)
          case atStart => exact ⟨0, ts, rfl, Nat.zero_le _, HN2, HO2, HT, Lib.hid rfl⟩
          case round =>
            obtain ⟨j, ts2, rfl, hj, HN3, HO3, HT3, HD3⟩ := hrel
            by_cases hjl : j < (wrOf x).length
            · obtain ⟨b4, off4, z, rfl, hb4, hz, hcz⟩ := (own_ints HO3.out (by omega)).at hjl
              have HZ := Lib.hid hz
              have hfd := fold_drop (f := numStep (laOf l base) base k (wrOf x)) hz ts2
              have HF := Lib.hid (hfd.symm.trans HD3.out)
              clear hz hfd
              by_cases hbz : base < z
              · obtain ⟨M, hM, hMe⟩ := HN3.out.2.1
                have hlk := hM.lookB z
                rw [hMe z hbz] at hlk
                have hd3 : decide (z ≤ base) = false := by simp; omega
                clear hM hMe
                cases hh : has ts2 z with
                | true =>
                  have HS : Hid (numStep (laOf l base) base k (wrOf x) ts2 z = ts2) := Lib.hid (by unfold numStep; rw [hh]; simp)
                  rw [hh] at hlk
                  simp only [if_true, Option.getD_some] at hlk
                  clear hh hbz
                  go_wp2_with fail
                  exact ⟨⟨j + 1, ts2, by go_num, by omega, HN3, HO3, Lib.hid (HT3.out.more (by omega)), Lib.hid (by rw [← HF.out, HS.out])⟩, by simp [intOf]; omega⟩
                | false =>
                  have HH := Lib.hid hh
                  have HBZ := Lib.hid hbz
                  rw [hh] at hlk
                  simp only [Bool.false_eq_true, if_false, Option.getD_none] at hlk
                  clear hh hbz
                  obtain ⟨A9, c9, rfl, _⟩ := own_form HN3.out.2.2.1
                  have hlen : ts2.length ≤ 120 := by have := HT3.out.len; omega
                  have hmk := run_makeSlice_full (w := wr) w.heap.size 70 4 _ _ 1 under70 i4.1 i4.2.1 i4.2.2.1 .i64 .i64 (ts2.length + 2) (by omega) (by rw [i4.2.2.2]; omega) (by unfold maxLen; omega) HN3.out.2.2.2.size
                  obtain ⟨w3, hmk, hrow, hgr⟩ := hmk
                  have hnm : ((ts2.length + 2 : Nat) : Int) = (ts2.length : Int) + 2 := by omega
                  rw [hnm] at hmk
                  have HRW0 : Hid (w3.ownsRow w.heap.size 4 1 (.slice (some ⟨wr.heap.size, 0, none⟩) (ts2.length + 2) (ts2.length + 2)) (ts2.length + 2) (bCs (List.replicate (ts2.length + 2) false))) := Lib.hid (by rw [← bCs_new]; exact hrow)
                  have hB3 : Below wr.heap.size wr w3 := Below.grown (Below.refl _ _) hgr (Nat.le_refl _) (fun g e => by cases e)
                  have HN4 := Lib.hid (HN3.out.later hB3)
                  have HO4 := Lib.hid (own_next HO3.out hB3)
                  have hgb : w.heap.size ≤ wr.heap.size := HN3.out.2.2.2.size
                  clear hrow hgr hB3 hnm
                  generalize wr.heap.size = gb at HRW0 hgb hmk
                  go_wp2_with fail
                  go_loopw [15] (fun i wr => ∃ (q : Nat) (bs : List Bool), i = .int .i64 q ∧ q ≤ ts2.length ∧ bs.length = ts2.length + 2 ∧ Hid (NuAt w wr w.heap.size gm lf base (.slice A9 ts2.length c9) ts2 (has ts2)) ∧ Hid (wr.ownsRow w.heap.size 3 1 (.slice (some ⟨b4, off4, none⟩) (wrOf x).length c4) (wrOf x).length (iCs (wrOf x))) ∧ Hid (wr.ownsRow w.heap.size 4 1 (.slice (some ⟨gb, 0, none⟩) (ts2.length + 2) (ts2.length + 2)) (ts2.length + 2) (bCs bs)) ∧ Hid (TkOk base k (wrOf x) (ts2.take q) bs)) (fun i _ => ts2.length - (intOf i).toNat)
                  case atStart => exact ⟨0, _, rfl, Nat.zero_le _, List.length_replicate, HN4, HO4, HRW0, Lib.hid (TkOk.start base k (wrOf x) _)⟩
                  case round =>
                    obtain ⟨q, bs, rfl, hq, hbs, HN5, HO5, HR5, HK5⟩ := hrel
                    by_cases hql : q < ts2.length
                    · obtain ⟨bt, offt, t, rfl, hbt, ht, tc0, tc1, tc2, tc3⟩ := (own_tms HN5.out.2.2.1 (by omega)).at hql
                      have HI5 := Lib.hid (own_ints HO5.out (by omega))
                      have htn := HT3.out.n t (List.mem_of_getElem? ht)
                      have hTQ : ts2.take (q + 1) = ts2.take q ++ [t] := by rw [List.take_add_one, ht]; rfl
                      obtain ⟨nq, hnq⟩ : ∃ nq : Nat, t.n = base + nq := ⟨(t.n - base).toNat, by omega⟩
                      have hnq2 : nq < bs.length := by omega
                      have HTQ := Lib.hid hTQ
                      have HNQ := Lib.hid hnq
                      clear ht hTQ hnq htn
                      go_wp2_with fail
                      refine (tused_any t k (some ⟨b4, off4, none⟩) (wrOf x).length c4 (wrOf x) wr HI5.out).mono ?_
                      cases hu : t.used k (wrOf x) with
                      | false =>
                        have HK6 : Hid (TkOk base k (wrOf x) (ts2.take (q + 1)) bs) := Lib.hid (by rw [HTQ.out]; exact HK5.out.no hu)
                        clear hu
                        rintro e w4 ⟨rfl, hb4⟩
                        have HN6 := Lib.hid (HN5.out.later hb4)
                        have HO6 := Lib.hid (own_next HO5.out hb4)
                        have HR6 := Lib.hid (own_next HR5.out hb4)
                        clear hb4 tc0 tc1 tc2 tc3
                        go_wp2_with fail
                        exact ⟨⟨q + 1, bs, by go_num, by omega, hbs, HN6, HO6, HR6, HK6⟩, by simp [intOf]; omega⟩
                      | true =>
                        have HK6 : Hid (TkOk base k (wrOf x) (ts2.take (q + 1)) (bs.set nq true)) := Lib.hid (by rw [HTQ.out]; exact HK5.out.yes hu HNQ.out hnq2)
                        clear hu
                        rintro e w4 ⟨rfl, hb4⟩
                        have HN6 := Lib.hid (HN5.out.later hb4)
                        have HO6 := Lib.hid (own_next HO5.out hb4)
                        have HR6 := Lib.hid (own_next HR5.out hb4)
                        have tn1 : w4.cell? ⟨bt, offt + q * 4 + 1, none⟩ = some (.int .i64 (base + nq)) := by rw [← HNQ.out]; exact (hb4.cell (p := ⟨bt, offt + q * 4 + 1, none⟩) hbt).trans tc1
                        clear hb4 tc0 tc1 tc2 tc3
                        have e1 : base + (nq : Int) - base = nq := by omega
                        have hcb : w4.cell? ⟨gb, nq, none⟩ = (bCs bs)[nq]? := HR6.out.cellAt nq (by omega)
                        rw [List.getElem?_eq_getElem (by rw [bCs_len]; exact hnq2)] at hcb
                        have hfb : w4.frozen? ⟨gb, nq, none⟩ = false := HR6.out.frozenAt nq
                        obtain ⟨o7, g7⟩ := HR6.out.stored nq (.bool true)
                        have HR7 : Hid ((w4.setCell ⟨gb, nq, none⟩ (.bool true)).ownsRow w.heap.size 4 1 (.slice (some ⟨gb, 0, none⟩) (ts2.length + 2) (ts2.length + 2)) (ts2.length + 2) (bCs (bs.set nq true))) := Lib.hid (by unfold bCs; rw [List.map_set]; exact o7)
                        obtain ⟨csb, hty⟩ := own_ty HR6.out (g := gb) rfl
                        have HN7 := Lib.hid (HN6.out.far g7 hgb hty (by decide))
                        have HO7 := Lib.hid (own_far HO6.out HR6.out (by decide) g7)
                        have hbs7 : (bs.set nq true).length = ts2.length + 2 := by rw [List.length_set]; exact hbs
                        clear o7 g7 hty
                        generalize hbx : (bCs bs)[nq]'(by rw [bCs_len]; exact hnq2) = bx at hcb
                        clear hbx
                        go_wp2_with fail
                        exact ⟨⟨q + 1, _, by go_num, by omega, hbs7, HN7, HO7, HR7, HK6⟩, by simp [intOf]; omega⟩
                    · have HK6 : Hid (TkOk base k (wrOf x) ts2 bs) := Lib.hid (by have := HK5.out; rwa [List.take_of_length_le (by omega)] at this)
                      obtain ⟨m, hm1, hm2, hm3, hm4, hm5⟩ := HK6.out.free hbs
                      have hall : ∀ y : Nat, 1 ≤ y → y ≤ m → ∃ u, wr.cell? ⟨gb, y, none⟩ = some (.bool u) ∧ bs[y]? = some u := fun y h1 h2 => by
                        have hy : y < bs.length := by omega
                        refine ⟨bs[y], ?_, List.getElem?_eq_getElem hy⟩
                        rw [HR5.out.cellAt y (by omega)]
                        unfold bCs
                        rw [List.getElem?_map, List.getElem?_eq_getElem hy]; rfl
                      have HM := Lib.hid (And.intro hm3 (And.intro hm4 hm5))
                      have HALL := Lib.hid hall
                      clear hm3 hm4 hm5 hall
                      go_wp2_with fail
                      go_loop [16] (fun i => ∃ q : Nat, i = .int .i64 q ∧ 1 ≤ q ∧ q ≤ m) (fun i => m - (intOf i).toNat)
                      case atStart => exact ⟨1, rfl, Nat.le_refl _, hm1⟩
                      case round =>
                        obtain ⟨q2, rfl, hq1, hq2⟩ := hrel
                        obtain ⟨u, hu, hu2⟩ := HALL.out q2 hq1 hq2
                        by_cases hqm : q2 < m
                        · rw [HM.out.2.1 q2 hq1 hqm] at hu2
                          injection hu2 with hu2
                          subst hu2
                          go_wp2_with fail
                          exact ⟨⟨q2 + 1, by go_num, by omega, by omega⟩, by simp [intOf]; omega⟩
                        · obtain rfl : q2 = m := by omega
                          rw [HM.out.1] at hu2
                          injection hu2 with hu2
                          subst hu2
                          obtain ⟨w6, hrun, keep, hn6⟩ := HN5.out.met z
                          have HN6 := Lib.hid hn6
                          have HO6 := Lib.hid (keep _ _ _ _ _ _ HO5.out)
                          have hcz5 := (ints_cell (own_ints HO5.out (by omega)) HZ.out).1
                          obtain ⟨hcz6, hz6⟩ := ints_cell (own_ints HO6.out (by omega)) HZ.out
                          have hlf6 := hn6.1.1
                          clear keep hn6 hcz hb4
                          go_upto_region 30 with (fail)
                          obtain ⟨W1, HW1⟩ : ∃ X, Hid (X = w6.drew) := ⟨_, Lib.hid rfl⟩
                          have hd0 : Below w6.heap.size w6 W1 := by rw [HW1.out]; exact bDrew w6
                          have hS0 : (fun w' => w'.cell? ⟨b4, off4 + j, none⟩ = some (.int .i64 z) ∧ MapI w' w.heap.size lf) W1 := ⟨(hd0.cell (p := ⟨b4, off4 + j, none⟩) hz6).trans hcz6, hlf6.next hd0⟩
                          have HN7 := Lib.hid (HN6.out.later hd0)
                          have HO7 := Lib.hid (own_next HO6.out hd0)
                          have e2 : (lf z).getD (.int .i64 0) = .int .i64 (laOf l base z) := la_get HL0.out.2 HBZ.out
                          have e3 : IntKind.i64.wrap (base + (q2 : Int)) = base + q2 := by rw [IntKind.wrap_i64]; omega
                          clear hd0 hcz6 hlf6 hu hrun
                          refine wp_region_N (fun w' => w'.cell? ⟨b4, off4 + j, none⟩ = some (.int .i64 z) ∧ MapI w' w.heap.size lf) (fun _ => true) (by kernel_rfl) ?_
                          rw [← HW1.out]
                          clear HW1
                          refine wpAnyN_take (i := 0) (v := ?v9) rfl (by kernel_rfl) (by kernel_rfl) (by kernel_rfl) (by kernel_rfl) (fun _ _ _ h => h) (Or.inl ⟨by rfl, ?hy9⟩) (by assumption) ?_
                          case hy9 => intro w hSw; obtain ⟨hc, hm⟩ := hSw; go_simp; try with_reducible rfl
                          simp only [Act.put, List.getElem_toArray, List.getElem_cons_zero, List.setIfInBounds_toArray, List.set_cons_zero, List.set_cons_succ]
                          refine wpAnyN_take (i := 1) (v := ?v10) rfl (by kernel_rfl) (by kernel_rfl) (by kernel_rfl) (by kernel_rfl) (fun _ _ _ h => h) (Or.inl ⟨by rfl, ?hy10⟩) (by assumption) ?_
                          case hy10 => intro w hSw; obtain ⟨hc, hm⟩ := hSw; go_simp; try with_reducible rfl
                          simp only [Act.put, List.getElem_toArray, List.getElem_cons_zero, List.getElem_cons_succ, List.setIfInBounds_toArray, List.set_cons_zero, List.set_cons_succ]
                          refine wpAnyN_take (i := 2) (v := ?v11) rfl (by kernel_rfl) (by kernel_rfl) (by kernel_rfl) (by kernel_rfl) (fun _ _ _ h => h) (Or.inl ⟨by rfl, ?hy11⟩) (by assumption) ?_
                          case hy11 => intro w hSw; obtain ⟨hc, hm⟩ := hSw; go_simp; try with_reducible rfl
                          simp only [Act.put, List.getElem_toArray, List.getElem_cons_zero, List.getElem_cons_succ, List.setIfInBounds_toArray, List.set_cons_zero, List.set_cons_succ]
                          refine wpAnyN_take (i := 3) (v := ?v12) rfl (by kernel_rfl) (by kernel_rfl) (by kernel_rfl) (by kernel_rfl) (fun _ _ _ h => h) (Or.inl ⟨by rfl, ?hy12⟩) (by assumption) ?_
                          case hy12 => intro w hSw; obtain ⟨hc, hm⟩ := hSw; go_simp; try with_reducible rfl
                          simp only [Act.put, List.getElem_toArray, List.getElem_cons_zero, List.getElem_cons_succ, List.setIfInBounds_toArray, List.set_cons_zero, List.set_cons_succ]
                          refine wpAnyN_take (i := 4) (v := ?v13) rfl (by kernel_rfl) (by kernel_rfl) (by kernel_rfl) (by kernel_rfl) (fun _ _ _ h => h) (Or.inl ⟨by rfl, ?hy13⟩) (by assumption) ?_
                          case hy13 => intro w hSw; obtain ⟨hc, hm⟩ := hSw; go_simp; try with_reducible rfl
                          simp only [Act.put, List.getElem_toArray, List.getElem_cons_zero, List.getElem_cons_succ, List.setIfInBounds_toArray, List.set_cons_zero, List.set_cons_succ]
                          refine wpAnyN_take (i := 5) (v := ?v14) rfl (by kernel_rfl) (by kernel_rfl) (by kernel_rfl) (by kernel_rfl) (fun _ _ _ h => h) (Or.inl ⟨by rfl, ?hy14⟩) (by assumption) ?_
                          case hy14 => intro w hSw; obtain ⟨hc, hm⟩ := hSw; go_simp; try with_reducible rfl
                          simp only [Act.put, List.getElem_toArray, List.getElem_cons_zero, List.getElem_cons_succ, List.setIfInBounds_toArray, List.set_cons_zero, List.set_cons_succ]
                          refine wpAnyN_take (i := 6) (v := ?v15) rfl (by kernel_rfl) (by kernel_rfl) (by kernel_rfl) (by kernel_rfl) (fun _ _ _ h => h) (Or.inl ⟨by rfl, ?hy15⟩) (by assumption) ?_
                          case hy15 => intro w hSw; obtain ⟨hc, hm⟩ := hSw; go_simp; try with_reducible rfl
                          simp only [Act.put, List.getElem_toArray, List.getElem_cons_zero, List.getElem_cons_succ, List.setIfInBounds_toArray, List.set_cons_zero, List.set_cons_succ]
                          refine wpAnyN_take (i := 7) (v := ?v16) rfl (by kernel_rfl) (by kernel_rfl) (by kernel_rfl) (by kernel_rfl) (fun _ _ _ h => h) (Or.inl ⟨by rfl, ?hy16⟩) (by assumption) ?_
                          case hy16 => intro w hSw; obtain ⟨hc, hm⟩ := hSw; go_simp; try with_reducible rfl
                          simp only [Act.put, List.getElem_toArray, List.getElem_cons_zero, List.getElem_cons_succ, List.setIfInBounds_toArray, List.set_cons_zero, List.set_cons_succ]
                          refine wpAnyN_take (i := 8) (v := ?v17) rfl (by kernel_rfl) (by kernel_rfl) (by kernel_rfl) (by kernel_rfl) (fun _ _ _ h => h) (Or.inl ⟨by rfl, ?hy17⟩) (by assumption) ?_
                          case hy17 => intro w hSw; obtain ⟨hc, hm⟩ := hSw; go_simp; try with_reducible rfl
                          simp only [Act.put, List.getElem_toArray, List.getElem_cons_zero, List.getElem_cons_succ, List.setIfInBounds_toArray, List.set_cons_zero, List.set_cons_succ]
                          refine wpAnyN_take (i := 9) (v := ?v18) rfl (by kernel_rfl) (by kernel_rfl) (by kernel_rfl) (by kernel_rfl) (fun _ _ _ h => h) (Or.inl ⟨by rfl, ?hy18⟩) (by assumption) ?_
                          case hy18 => intro w hSw; obtain ⟨hc, hm⟩ := hSw; go_simp; try with_reducible rfl
                          simp only [Act.put, List.getElem_toArray, List.getElem_cons_zero, List.getElem_cons_succ, List.setIfInBounds_toArray, List.set_cons_zero, List.set_cons_succ]
                          refine wpAnyN_take (i := 10) (v := ?v19) rfl (by kernel_rfl) (by kernel_rfl) (by kernel_rfl) (by kernel_rfl) (fun _ _ _ h => h) (Or.inl ⟨by rfl, ?hy19⟩) (by assumption) ?_
                          case hy19 => intro w hSw; obtain ⟨hc, hm⟩ := hSw; go_simp; try with_reducible rfl
                          simp only [Act.put, List.getElem_toArray, List.getElem_cons_zero, List.getElem_cons_succ, List.setIfInBounds_toArray, List.set_cons_zero, List.set_cons_succ]
                          refine wpAnyN_take (i := 11) (v := ?v20) rfl (by kernel_rfl) (by kernel_rfl) (by kernel_rfl) (by kernel_rfl) (fun _ _ _ h => h) (Or.inl ⟨by rfl, ?hy20⟩) (by assumption) ?_
                          case hy20 => intro w hSw; obtain ⟨hc, hm⟩ := hSw; go_simp; try with_reducible rfl
                          simp only [Act.put, List.getElem_toArray, List.getElem_cons_zero, List.getElem_cons_succ, List.setIfInBounds_toArray, List.set_cons_zero, List.set_cons_succ]
                          refine wpAnyN_take (i := 12) (v := ?v21) rfl (by kernel_rfl) (by kernel_rfl) (by kernel_rfl) (by kernel_rfl) (fun _ _ _ h => h) (Or.inl ⟨by rfl, ?hy21⟩) (by assumption) ?_
                          case hy21 => intro w hSw; obtain ⟨hc, hm⟩ := hSw; go_simp; try with_reducible rfl
                          simp only [Act.put, List.getElem_toArray, List.getElem_cons_zero, List.getElem_cons_succ, List.setIfInBounds_toArray, List.set_cons_zero, List.set_cons_succ]
                          refine wpAnyN_take (i := 13) (v := ?v22) rfl (by kernel_rfl) (by kernel_rfl) (by kernel_rfl) (by kernel_rfl) (fun _ _ _ h => h) (Or.inl ⟨by rfl, ?hy22⟩) (by assumption) ?_
                          case hy22 => intro w hSw; obtain ⟨hc, hm⟩ := hSw; go_simp; try with_reducible rfl
                          simp only [Act.put, List.getElem_toArray, List.getElem_cons_zero, List.getElem_cons_succ, List.setIfInBounds_toArray, List.set_cons_zero, List.set_cons_succ]
                          refine wpAnyN_take (i := 14) (v := ?v23) rfl (by kernel_rfl) (by kernel_rfl) (by kernel_rfl) (by kernel_rfl) (fun _ _ _ h => h) (Or.inl ⟨by rfl, ?hy23⟩) (by assumption) ?_
                          case hy23 => intro w hSw; obtain ⟨hc, hm⟩ := hSw; have hlk2 := hm.lookN z; rw [e2] at hlk2; go_simp; try with_reducible rfl
                          simp only [Act.put, List.getElem_toArray, List.getElem_cons_zero, List.getElem_cons_succ, List.setIfInBounds_toArray, List.set_cons_zero, List.set_cons_succ]
                          refine wpAnyN_take (i := 15) (v := ?v24) rfl (by kernel_rfl) (by kernel_rfl) (by kernel_rfl) (by kernel_rfl) (fun _ _ _ h => h) (Or.inl ⟨by rfl, ?hy24⟩) (by assumption) ?_
                          case hy24 => intro w hSw; obtain ⟨hc, hm⟩ := hSw; go_simp; try with_reducible rfl
                          simp only [Act.put, List.getElem_toArray, List.getElem_cons_zero, List.getElem_cons_succ, List.setIfInBounds_toArray, List.set_cons_zero, List.set_cons_succ]
                          refine wpAnyN_one (i := 16) (by kernel_rfl) rfl (fun K hK => ?_)
                          simp only [List.getElem_toArray, List.getElem_cons_zero, List.getElem_cons_succ]
                          go_simp
                          have HN8 := Lib.hid (HN7.out.later (bAlloc W1 (.cells #[.int .i64 z, .int .i64 (base + q2), .int .i64 k, .int .i64 (laOf l base z)] 50)))
                          have HO8 := Lib.hid (own_next HO7.out (bAlloc W1 (.cells #[.int .i64 z, .int .i64 (base + q2), .int .i64 k, .int .i64 (laOf l base z)] 50)))
                          have hS8 : (fun w' => w'.cell? ⟨b4, off4 + j, none⟩ = some (.int .i64 z) ∧ MapI w' w.heap.size lf) (W1.alloc (.cells #[.int .i64 z, .int .i64 (base + q2), .int .i64 k, .int .i64 (laOf l base z)] 50)) := ⟨(ints_cell (own_ints HO8.out (by omega)) HZ.out).1, HN8.out.1.1⟩
                          have HL := Lib.hid (Blk.new W1 50 #[.int .i64 z, .int .i64 (base + q2), .int .i64 k, .int .i64 (laOf l base z)])
                          refine hK _ _ (fun _ => hS8) ?_
                          (try simp only [Act.put, List.setIfInBounds_toArray, List.set_cons_zero, List.set_cons_succ])
                          refine wpAnyN_one (i := 17) (by kernel_rfl) rfl (fun K hK => ?_)
                          simp only [List.getElem_toArray, List.getElem_cons_zero, List.getElem_cons_succ]
                          rw [if_pos (by rfl)]
                          refine wp_append_tm _ _ rfl w.heap.size (.slice A9 ts2.length c9) ts2 rfl HN8.out.2.2.1 W1.heap.size ⟨z, base + q2, k, laOf l base z⟩ rfl HL.out (by omega) HN8.out.2.2.2.size ?_
                          intro v9 w9 ho9 hg9
                          have HO9 := Lib.hid (own_far HO8.out HN8.out.2.2.1 (by decide) hg9)
                          have HN9 := Lib.hid ((HN8.out.snoc hg9 ho9).congr (hs' := has (ts2 ++ [⟨z, base + q2, k, laOf l base z⟩])) (fun y _ => has_snoc2 _ _ y))
                          have hS9 : (fun w' => w'.cell? ⟨b4, off4 + j, none⟩ = some (.int .i64 z) ∧ MapI w' w.heap.size lf) w9 := ⟨(ints_cell (own_ints HO9.out (by omega)) HZ.out).1, HN9.out.1.1⟩
                          clear ho9 hg9
                          refine hK _ _ (fun _ => hS9) ?_
                          (try simp only [Act.put, List.setIfInBounds_toArray, List.set_cons_zero, List.set_cons_succ])
                          refine wpAnyN_one (i := 18) (by kernel_rfl) rfl (fun K hK => ?_)
                          simp only [List.getElem_toArray, List.getElem_cons_zero, List.getElem_cons_succ]
                          go_simp
                          refine hK _ _ (fun _ => hS9) ?_
                          (try simp only [Act.put, List.setIfInBounds_toArray, List.set_cons_zero, List.set_cons_succ])
                          refine wpAnyN_done (by kernel_rfl) ?_ _
                          have HS : Hid (numStep (laOf l base) base k (wrOf x) ts2 z = ts2 ++ [⟨z, base + q2, k, laOf l base z⟩]) := Lib.hid (by unfold numStep; rw [hd3, HH.out, HM.out.2.2]; rfl)
                          have HT9 : Hid (TsOk base (ts2 ++ [⟨z, base + q2, k, laOf l base z⟩]) (2 * k + (j + 1))) := Lib.hid (HT3.out.snoc (by show base < base + (q2 : Int); omega) (by show base + (q2 : Int) ≤ _; omega))
                          clear hS0 hS8 hS9
                          go_wp2_with fail
                          exact ⟨⟨j + 1, _, by go_num, by omega, HN9, HO9, HT9, Lib.hid (by rw [← HF.out, HS.out])⟩, by simp [intOf]; omega⟩
              · have hd3 : decide (z ≤ base) = true := by simp; omega
                have HS : Hid (numStep (laOf l base) base k (wrOf x) ts2 z = ts2) := Lib.hid (by unfold numStep; rw [hd3]; rfl)
                clear hbz
                go_wp2_with fail
                exact ⟨⟨j + 1, ts2, by go_num, by omega, HN3, HO3, Lib.hid (HT3.out.more (by omega)), Lib.hid (by rw [← HF.out, HS.out])⟩, by simp [intOf]; omega⟩
            · have HE : Hid (ts2 = (wrOf x).foldl (numStep (laOf l base) base k (wrOf x)) ts) := Lib.hid (by rw [← HD3.out, List.drop_of_length_le (by omega)]; rfl)
              go_wp2_with fail
              exact ⟨⟨k + 1, ts2, by go_num, by omega, HN3, Lib.hid (HT3.out.more (by omega)), Lib.hid (by rw [HE.out, ← HX.out]; exact HD.out)⟩, by simp [intOf]; omega⟩
        · have HE : Hid (ts = tsOf l base) := Lib.hid (by rw [← HD.out, List.drop_of_length_le (by have := HA.out.len; omega)]; rfl)
          go_wp2_with fail
          go_ret
          exact ⟨_, rfl, by rw [← HE.out]; exact HN.out.2.2.1, HN.out.2.2.2⟩
end Go.Proofs.Yteffpeokialeiaa
