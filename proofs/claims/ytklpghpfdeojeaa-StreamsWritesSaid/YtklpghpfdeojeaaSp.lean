/-
  Walks: a file is inserted by the reference.
-/
import Derived.Test.YtklpghpfdeojeaaSo
import Derived.BigQuiet
namespace Go.Proofs.Ytklpghpfdeojeaa
open Go.RowKit

theorem bytes_tri : ∀ (x y : List UInt8), Op.bytesLess x y = (!Op.bytesLess y x && !y == x)
  | [], [] => by simp [Op.bytesLess]
  | _ :: _, [] => by simp [Op.bytesLess]
  | [], _ :: _ => by simp [Op.bytesLess]
  | a :: x, b :: y => by
    have ih := bytes_tri x y
    have hn : (a == b) = decide (a.toNat = b.toNat) := by rw [Bool.eq_iff_iff]; simp [UInt8.toNat_inj]
    have hm : (b == a) = decide (b.toNat = a.toNat) := by rw [Bool.eq_iff_iff]; simp [UInt8.toNat_inj]
    simp only [Op.bytesLess, List.cons_beq_cons, UInt8.lt_iff_toNat_lt, hn, hm, ih]
    rcases Nat.lt_trichotomy a.toNat b.toNat with h | h | h
    · simp [h, Nat.lt_asymm h, Nat.ne_of_gt h]
    · simp [h]
    · simp [h, Nat.lt_asymm h, Nat.ne_of_gt h, Nat.ne_of_lt h]
theorem gtF_eq (f x : F) : gtF f x = Op.bytesLess f.name.toList x.name.toList := by rw [bytes_tri]; rfl
theorem insF_len (l : List F) (f : F) : (insF l f).length = l.length + 1 := by
  have := posF_le l f
  unfold insF
  simp
  omega
theorem posF_before {l : List F} {f x : F} {k : Nat} (hx : l[k]? = some x) (h : k < posF l f) : gtF f x = false := by
  unfold posF at h
  rcases idxI_cases l (gtF f) with ⟨-, h2⟩ | ⟨j, y, he, -, -, -⟩
  · exact h2 _ (List.mem_of_getElem? hx)
  · rw [he, if_neg (by omega)] at h
    have h1 : l.findIdx? (gtF f) = some j := by
      unfold idxI at he
      cases h2 : l.findIdx? (gtF f) with
      | none => rw [h2] at he; simp at he
      | some i => rw [h2] at he; simp at he; rw [Int.ofNat.inj he]
    obtain ⟨hlt, -, h3⟩ := List.findIdx?_eq_some_iff_getElem.1 h1
    have h4 := h3 k (by omega)
    obtain ⟨h5, h6⟩ := List.getElem?_eq_some_iff.1 hx
    rw [h6] at h4
    simpa using h4
theorem posF_at {l : List F} {f x : F} (hx : l[posF l f]? = some x) : gtF f x = true := by
  have hlt := (List.getElem?_eq_some_iff.1 hx).1
  revert hx hlt
  unfold posF
  rcases idxI_cases l (gtF f) with ⟨he, -⟩ | ⟨j, y, he, -, hy, h1⟩
  · rw [he]; simp
  · rw [he, if_neg (by omega)]
    intro hx _
    simp at hx
    rw [hy] at hx
    injection hx with hx
    rw [← hx]
    exact h1
/-- how much of the result stands after 'k' rounds -/
def putN (p k : Nat) : Nat := if p < k then k + 1 else k
theorem ins_before {l : List F} {f x : F} {k : Nat} (hx : l[k]? = some x) (h : k < posF l f) : (insF l f).take (putN (posF l f) (k + 1)) = (insF l f).take (putN (posF l f) k) ++ [x] := by
  have hp := posF_le l f
  have hk : putN (posF l f) (k + 1) = k + 1 := by unfold putN; rw [if_neg (by omega)]
  have hk2 : putN (posF l f) k = k := by unfold putN; rw [if_neg (by omega)]
  rw [hk, hk2, List.take_add_one]
  congr 1
  unfold insF
  rw [List.getElem?_append_left (by rw [List.length_take]; omega), List.getElem?_take, if_pos h, hx]
  rfl
theorem ins_after {l : List F} {f x : F} {k : Nat} (hx : l[k]? = some x) (h : posF l f < k) : (insF l f).take (putN (posF l f) (k + 1)) = (insF l f).take (putN (posF l f) k) ++ [x] := by
  have hp := posF_le l f
  have hk : putN (posF l f) (k + 1) = k + 1 + 1 := by unfold putN; rw [if_pos (by omega)]
  have hk2 : putN (posF l f) k = k + 1 := by unfold putN; rw [if_pos (by omega)]
  rw [hk, hk2, List.take_add_one]
  congr 1
  unfold insF
  rw [List.getElem?_append_right (by rw [List.length_take]; omega), List.length_take, Nat.min_eq_left hp, show k + 1 - posF l f = (k - posF l f) + 1 by omega, List.getElem?_cons_succ, List.getElem?_drop, show posF l f + (k - posF l f) = k by omega, hx]
  rfl
theorem ins_here {l : List F} {f : F} : (insF l f).take (posF l f + 1) = (insF l f).take (putN (posF l f) (posF l f)) ++ [f] := by
  have hp := posF_le l f
  have hk2 : putN (posF l f) (posF l f) = posF l f := by unfold putN; rw [if_neg (by omega)]
  rw [hk2, List.take_add_one]
  congr 1
  unfold insF
  rw [List.getElem?_append_right (by rw [List.length_take]; omega), List.length_take, Nat.min_eq_left hp, Nat.sub_self]
  rfl
theorem ins_here2 {l : List F} {f x : F} (hx : l[posF l f]? = some x) : (insF l f).take (putN (posF l f) (posF l f + 1)) = (insF l f).take (posF l f + 1) ++ [x] := by
  have hp := posF_le l f
  have hk : putN (posF l f) (posF l f + 1) = posF l f + 1 + 1 := by unfold putN; rw [if_pos (by omega)]
  rw [hk, List.take_add_one]
  congr 1
  unfold insF
  rw [List.getElem?_append_right (by rw [List.length_take]; omega), List.length_take, Nat.min_eq_left hp, show posF l f + 1 - posF l f = 0 + 1 by omega, List.getElem?_cons_succ, List.getElem?_drop, Nat.add_zero, hx]
  rfl

/-- the state while the reference inserts -/
structure PutS (w : World) (f : F) (v : Value) (m : Nat) (r : List F) (wr : World) : Prop where
  own : wr.ownsRow (w.heap.size + 1) 35 2 v m (fCs r)
  box : Blk wr w.heap.size 35 #[.string f.name, .string f.text]
  below : Below w.heap.size w wr
/-- one more file -/
theorem PutS.more {w wr w' : World} {f : F} {v v' : Value} {m : Nat} {r : List F} {x : F} (h : PutS w f v m r wr) (ho : w'.ownsRow (w.heap.size + 1) 35 2 v' (m + 1) (fCs r ++ [.string x.name, .string x.text]))
    (hg : (wr.alloc (.cells #[.string x.name, .string x.text] 35)).grownBy w' v.ownBlock) : PutS w f v' (m + 1) (r ++ [x]) w' := by
  have hz := h.box.lt
  have hlt := h.own.lt
  refine ⟨by rw [fCs_app]; exact ho, (h.box.alloc _).grown hg (fun e => by have := (hlt _ e).1; omega), (h.below.alloc (by omega) _).grown hg (by simp; omega) (fun k hk => by have := (hlt k hk).1; omega)⟩
theorem PutS.drewN {w wr : World} {f : F} {v : Value} {m : Nat} {r : List F} (h : PutS w f v m r wr) (k : Nat) : PutS w f v m r (wr.drewN k) := ⟨h.own, h.box, bDrewN h.below k⟩
set_option maxHeartbeats 1000000 in
theorem put_any (A : Option Addr) (n c : Nat) (l : List F) (f : F) (w : World) (ha : FilesAt w w.heap.size A n l) (hn : n ≤ 4398046511100) :
    Calls Try.prog 34 #[.slice A n c, f.v] w fun e w' => (∃ v, e = .returned v ∧ w'.ownsRow w.heap.size 35 2 v (n + 1) (fCs (insF l f))) ∧ Below w.heap.size w w' := by
  obtain ⟨i0, hi0, hz0, hy0, hb0⟩ := info_parts info35
  have hl := ha.1.1
  have hpl := posF_le l f
  have HA := Lib.hid ha
  clear ha
  go_enter Try.func34, Try.ntmps34
  go_wp2_with fail
  go_loopw [5, 6, 7] (fun v d i wr => ∃ k : Nat, k ≤ n ∧ i = .int .i64 k ∧ d = .bool (decide (posF l f < k)) ∧ Hid (PutS w f v (putN (posF l f) k) ((insF l f).take (putN (posF l f) k)) wr)) (fun v d i _ => n - (intOf i).toNat)
  case atStart =>
    refine ⟨0, by omega, rfl, by simp, Lib.hid ⟨?_, Blk.new _ _ _, bAlloc _ _⟩⟩
    have : putN (posF l f) 0 = 0 := by unfold putN; rw [if_neg (by omega)]
    rw [this]
    exact ⟨rfl, .inl ⟨rfl, rfl⟩⟩
  case round =>
    obtain ⟨k, hk, rfl, rfl, HP⟩ := hrel
    have hzw := HP.out.box.lt
    have hzz := HP.out.below.size
    have hc0 := HP.out.box.cell 0
    have hc1 := HP.out.box.cell 1
    simp at hc0 hc1
    obtain ⟨p, hp⟩ : ∃ p, posF l f = p := ⟨_, rfl⟩
    by_cases hlt : k < n
    · obtain ⟨b, off, x, rfl, hb, hx, hx4⟩ := HA.out.at hlt
      obtain ⟨q0, q1⟩ := hx4.below hb HP.out.below
      have hbw : b < wr.heap.size := by omega
      have hkn : (k : Int) < (n : Int) := by omega
      have hwk : IntKind.i64.wrap (k : Int) = k := by rw [IntKind.wrap_i64]; omega
      rcases Nat.lt_trichotomy p k with hpk | hpk | hpk
      · have hM : putN p k = k + 1 := by unfold putN; rw [if_pos hpk]
        have HN := Lib.hid (ins_after hx (by rw [hp]; exact hpk))
        have hd : decide (p < k) = true := by simpa using hpk
        have HP := HP
        rw [hp] at HP HN ⊢
        rw [hM] at HP HN
        have HQ := Lib.hid hp
        clear hp hx hpl
        rw [hd]
        go_wp2_with fail
        go_quiet (fail)
        go_wp2_with (at_builtin; refine wpList_append_src rfl (.tmp 30) (.tmp 35) 22 rfl (w.heap.size + 1) 35 i0 _ 2 32 Try.underlying22 hi0 hz0 hy0 hb0 rfl (by decide) _ (k + 1) (fCs ((insF l f).take (k + 1))) rfl ((HP.out.drewN _).own.alloc _) (some ⟨wr.heap.size, 0, none⟩) 1 1 [.string x.name, .string x.text] rfl ⟨by omega, fun e => by cases e⟩ ?p1 ?p2 ?p3 ?p4 ?p5 ?p6 ?_)
        case p1 => rfl
        case p2 =>
          intro ad e j u hj
          injection e with e
          subst e
          have h := (Blk.new wr 35 #[.string x.name, .string x.text]).cell j
          rw [add_plain, Nat.zero_add]
          exact h.trans (by simpa using hj)
        case p3 => simp [Value.oneCell']
        case p4 => unfold maxLen; omega
        case p5 => omega
        case p6 => simp; omega
        intro v2 w2 ho2 hg2 ht2
        have H2 := Lib.hid ((HP.out.drewN _).more ho2 hg2)
        clear ho2 hg2 ht2
        rw [← HN.out] at H2
        have hM2 : putN p (k + 1) = k + 1 + 1 := by unfold putN; rw [if_pos (by omega)]
        go_wp2_with fail
        exact ⟨⟨k + 1, by omega, by go_num, by simp; omega, Lib.hid (by rw [hM2] at H2 ⊢; exact H2.out)⟩, by simp [intOf]; omega⟩
      · have hM : putN p k = k := by unfold putN; rw [if_neg (by omega)]
        have hg := posF_at (l := l) (f := f) (x := x) (by rw [hp, hpk]; exact hx)
        have HN2 := Lib.hid (ins_here2 (l := l) (f := f) (x := x) (by rw [hp, hpk]; exact hx))
        have HN := Lib.hid (ins_here (l := l) (f := f))
        rw [gtF_eq] at hg
        have hd : decide (p < k) = false := by simp; omega
        have HP := HP
        rw [hp] at HP HN HN2 ⊢
        rw [hM] at HP
        have HQ := Lib.hid hp
        clear hp hx hpl
        rw [hd]
        subst hpk
        rw [hM] at HN
        go_wp2_with fail
        go_quiet (fail)
        go_wp2_with (at_builtin; refine wpList_append_src rfl (.tmp 26) (.tmp 28) 22 rfl (w.heap.size + 1) 35 i0 _ 2 32 Try.underlying22 hi0 hz0 hy0 hb0 rfl (by decide) _ (p) (fCs ((insF l f).take p)) rfl ((HP.out.drewN _).own.alloc _) (some ⟨wr.heap.size, 0, none⟩) 1 1 [.string f.name, .string f.text] rfl ⟨by omega, fun e => by cases e⟩ ?q1 ?q2 ?q3 ?q4 ?q5 ?q6 ?_)
        case q1 => rfl
        case q2 =>
          intro ad e j u hj
          injection e with e
          subst e
          have h := (Blk.new wr 35 #[.string f.name, .string f.text]).cell j
          rw [add_plain, Nat.zero_add]
          exact h.trans (by simpa using hj)
        case q3 => simp [Value.oneCell']
        case q4 => unfold maxLen; omega
        case q5 => omega
        case q6 => simp; omega
        intro v2 w2 ho2 hg2 ht2
        have H2 := Lib.hid ((HP.out.drewN _).more ho2 hg2)
        clear ho2 hg2 ht2
        rw [← HN.out] at H2
        have hz2 := H2.out.box.lt
        have hy2 := H2.out.below.size
        have q0 := (hx4.below hb H2.out.below).1
        have q1 := (hx4.below hb H2.out.below).2
        have hbw : b < w2.heap.size := by omega
        go_wp2_with (at_builtin; refine wpList_append_src rfl (.tmp 30) (.tmp 35) 22 rfl (w.heap.size + 1) 35 i0 _ 2 32 Try.underlying22 hi0 hz0 hy0 hb0 rfl (by decide) _ (p + 1) (fCs ((insF l f).take (p + 1))) rfl (H2.out.own.alloc _) (some ⟨w2.heap.size, 0, none⟩) 1 1 [.string x.name, .string x.text] rfl ⟨by omega, fun e => by cases e⟩ ?r1 ?r2 ?r3 ?r4 ?r5 ?r6 ?_)
        case r1 => rfl
        case r2 =>
          intro ad e j u hj
          injection e with e
          subst e
          have h := (Blk.new w2 35 #[.string x.name, .string x.text]).cell j
          rw [add_plain, Nat.zero_add]
          exact h.trans (by simpa using hj)
        case r3 => simp [Value.oneCell']
        case r4 => unfold maxLen; omega
        case r5 => omega
        case r6 => simp; omega
        intro v3 w3 ho3 hg3 ht3
        have H3 := Lib.hid (H2.out.more ho3 hg3)
        clear ho3 hg3 ht3
        rw [← HN2.out] at H3
        have hM2 : putN p (p + 1) = p + 1 + 1 := by unfold putN; rw [if_pos (by omega)]
        go_wp2_with fail
        exact ⟨⟨p + 1, by omega, by go_num, by simp, Lib.hid (by rw [hM2] at H3 ⊢; exact H3.out)⟩, by simp [intOf]; omega⟩
      · have hM : putN p k = k := by unfold putN; rw [if_neg (by omega)]
        have hg := posF_before hx (by rw [hp]; exact hpk)
        have HN := Lib.hid (ins_before hx (by rw [hp]; exact hpk))
        rw [gtF_eq] at hg
        have hd : decide (p < k) = false := by simp; omega
        have HP := HP
        rw [hp] at HP HN ⊢
        rw [hM] at HP HN
        have HQ := Lib.hid hp
        clear hp hx hpl
        rw [hd]
        go_wp2_with fail
        go_quiet (fail)
        go_wp2_with (at_builtin; refine wpList_append_src rfl (.tmp 30) (.tmp 35) 22 rfl (w.heap.size + 1) 35 i0 _ 2 32 Try.underlying22 hi0 hz0 hy0 hb0 rfl (by decide) _ (k) (fCs ((insF l f).take k)) rfl ((HP.out.drewN _).own.alloc _) (some ⟨wr.heap.size, 0, none⟩) 1 1 [.string x.name, .string x.text] rfl ⟨by omega, fun e => by cases e⟩ ?s1 ?s2 ?s3 ?s4 ?s5 ?s6 ?_)
        case s1 => rfl
        case s2 =>
          intro ad e j u hj
          injection e with e
          subst e
          have h := (Blk.new wr 35 #[.string x.name, .string x.text]).cell j
          rw [add_plain, Nat.zero_add]
          exact h.trans (by simpa using hj)
        case s3 => simp [Value.oneCell']
        case s4 => unfold maxLen; omega
        case s5 => omega
        case s6 => simp; omega
        intro v2 w2 ho2 hg2 ht2
        have H2 := Lib.hid ((HP.out.drewN _).more ho2 hg2)
        clear ho2 hg2 ht2
        rw [← HN.out] at H2
        have hM2 : putN p (k + 1) = k + 1 := by unfold putN; rw [if_neg (by omega)]
        go_wp2_with fail
        exact ⟨⟨k + 1, by omega, by go_num, by simp; omega, Lib.hid (by rw [hM2] at H2 ⊢; exact H2.out)⟩, by simp [intOf]; omega⟩
    · obtain rfl : k = n := by omega
      by_cases hpk : p < k
      · have hM : putN p k = k + 1 := by unfold putN; rw [if_pos hpk]
        have hd : decide (p < k) = true := by simpa using hpk
        have HP := HP
        rw [hp] at HP ⊢
        rw [hM] at HP
        have HQ := Lib.hid hp
        clear hp hpl
        rw [hd]
        have hall : (insF l f).take (k + 1) = insF l f := List.take_of_length_le (by rw [insF_len]; omega)
        rw [hall] at HP
        clear hall
        go_wp2_with fail
        go_ret
        exact ⟨⟨_, rfl, own_le HP.out.own (Nat.le_succ _)⟩, HP.out.below⟩
      · obtain rfl : p = k := by omega
        have hM : putN p p = p := by unfold putN; rw [if_neg (by omega)]
        have HN := Lib.hid (ins_here (l := l) (f := f))
        have hd : decide (p < p) = false := by simp
        have HP := HP
        rw [hp] at HP HN ⊢
        rw [hM] at HP HN
        have HQ := Lib.hid hp
        clear hp hpl
        rw [hd]
        have hall : (insF l f).take (p + 1) = insF l f := List.take_of_length_le (by rw [insF_len]; omega)
        rw [hall] at HN
        clear hall
        go_wp2_with (at_builtin; refine wpList_append_src rfl (.tmp 39) (.tmp 41) 22 rfl (w.heap.size + 1) 35 i0 _ 2 32 Try.underlying22 hi0 hz0 hy0 hb0 rfl (by decide) _ (p) (fCs ((insF l f).take p)) rfl (HP.out.own.alloc _) (some ⟨wr.heap.size, 0, none⟩) 1 1 [.string f.name, .string f.text] rfl ⟨by omega, fun e => by cases e⟩ ?t1 ?t2 ?t3 ?t4 ?t5 ?t6 ?_)
        case t1 => rfl
        case t2 =>
          intro ad e j u hj
          injection e with e
          subst e
          have h := (Blk.new wr 35 #[.string f.name, .string f.text]).cell j
          rw [add_plain, Nat.zero_add]
          exact h.trans (by simpa using hj)
        case t3 => simp [Value.oneCell']
        case t4 => unfold maxLen; omega
        case t5 => omega
        case t6 => simp; omega
        intro v2 w2 ho2 hg2 ht2
        have H2 := Lib.hid (HP.out.more ho2 hg2)
        clear ho2 hg2 ht2
        rw [← HN.out] at H2
        go_wp2_with fail
        go_ret
        exact ⟨⟨_, rfl, own_le H2.out.own (Nat.le_succ _)⟩, H2.out.below⟩
end Go.Proofs.Ytklpghpfdeojeaa
