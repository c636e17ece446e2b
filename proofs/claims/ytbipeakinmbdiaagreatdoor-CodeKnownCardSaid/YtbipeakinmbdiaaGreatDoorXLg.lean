/-
  Memory: instructions appended to a row of one's own; walk: the law's clone.
-/
import Derived.Test.YtbipeakinmbdiaaGreatDoorKq
import Derived.Test.YtbipeakinmbdiaaGreatDoorKu
import Derived.Laws.AppendOwnNone
namespace Go.Proofs.YtbipeakinmbdiaaGreatDoor
open Go.RowKit

theorem ins_news {w : World} {bk off : Nat} {l : List In} (h : ∀ i x, l[i]? = some x → ICells w bk (off + i * 6) x) : ∀ j u, (aCs l)[j]? = some u → w.cell? ((⟨bk, off, none⟩ : Addr).add j) = some u := by
  intro j u hj
  have hlt := (List.getElem?_eq_some_iff.1 hj).1
  rw [aCs_len] at hlt
  obtain ⟨x, hx⟩ : ∃ x, l[j / 6]? = some x := ⟨l[j / 6]'(by omega), List.getElem?_eq_getElem (by omega)⟩
  obtain ⟨c0, c1, c2, c3, c4, c5⟩ := h _ _ hx
  obtain ⟨a0, a1, a2, a3, a4, a5⟩ := aCs_at hx
  have hj2 : j = j / 6 * 6 + j % 6 := by omega
  have ha : ((⟨bk, off, none⟩ : Addr).add j) = ⟨bk, off + j, none⟩ := by
    rcases Nat.eq_zero_or_pos j with rfl | h0
    · rfl
    · simp [Addr.add]; omega
  rw [ha]
  have hm : j % 6 < 6 := Nat.mod_lt _ (by omega)
  generalize j / 6 = q at *
  generalize j % 6 = r at *
  subst hj2
  rw [← Nat.add_assoc]
  match r, hm with
  | 0, _ => rw [Nat.add_zero] at hj ⊢; rw [a0] at hj; injection hj with hj; subst hj; exact c0
  | 1, _ => rw [a1] at hj; injection hj with hj; subst hj; exact c1
  | 2, _ => rw [a2] at hj; injection hj with hj; subst hj; exact c2
  | 3, _ => rw [a3] at hj; injection hj with hj; subst hj; exact c3
  | 4, _ => rw [a4] at hj; injection hj with hj; subst hj; exact c4
  | 5, _ => rw [a5] at hj; injection hj with hj; subst hj; exact c5
set_option maxRecDepth 100000 in
theorem wp_append_ins {w : World} {o : Oper} {a : Act} {K : Act → World → Prop} {Q : Exit → Act → World → Prop} (s x : Operand)
    (ho : o.op = .call { callee := .builtin .append, args := #[s, x], argTypes := #[26, 26] }) (base : Nat) (v : Value) (l : List In) (hs : a.eval s = v) (hown : w.ownsRow base 34 6 v l.length (aCs l))
    (B : Nat) (A : Option Addr) (m c : Nat) (ks : List In) (hx : a.eval x = .slice A m c) (hks : InsAt w B A m ks) (hc : CapOk A m c) (hlen : (l.length + m) * 56 ≤ 140737488355328) (hbase : base ≤ w.heap.size)
    (h : ∀ v' w', w'.ownsRow base 34 6 v' (l.length + m) (aCs (l ++ ks)) → w.grownBy w' v.ownBlock → (v'.ownBlock = v.ownBlock ∨ v'.ownBlock = some w.heap.size) → K (a.put o.dst v') w') : o.wp Tryz.prog a w K Q := by
  obtain ⟨i34, hi1, hi2, hi3, hi4⟩ := info_parts info34
  have hkl : ks.length = m := hks.len
  cases A with
  | none =>
    obtain ⟨hc1, hc2⟩ := hc
    obtain rfl : c = 0 := hc2 rfl
    obtain rfl : m = 0 := by omega
    obtain rfl : ks = [] := List.length_eq_zero_iff.1 hkl
    have hrun := run_append_owned_none (P := Tryz.prog) (w := w) base 26 o.type 34 i34 6 Tryz.underlying26 hi1 v l.length (aCs l) hown
    unfold Oper.wp execOp
    simp only [ho, resolve, invoke, builtin, Sem.run_bind, Sem.run_pure, Result.andThen_ok, List.map_toArray, List.map_cons, List.map_nil, hs, hx, hrun]
    rw [List.append_nil] at h
    exact h v w hown ⟨rfl, rfl, rfl, Nat.le_refl _, fun _ _ _ => rfl⟩ (.inl rfl)
  | some ad =>
    obtain ⟨v', w', hr, h2, h3, h4, h5⟩ := run_append_own_at (P := Tryz.prog) w base 26 o.type 34 i34 (.agg #[.int .i64 0, .int .i64 0, .int .i64 0, .int .i64 0, .string ⟨#[]⟩, .int .i64 0]) 6 56 Tryz.underlying26 hi1 hi2 hi3 hi4 rfl (by decide) v l.length (aCs l) hown ad m c (aCs ks) (by rw [aCs_len, hkl]) (fun j u hj => by
      have hlt := (List.getElem?_eq_some_iff.1 hj).1
      rw [aCs_len] at hlt
      obtain ⟨bk, off, e, _, hcs⟩ := hks.2 (by omega)
      injection e with e
      subst e
      exact ins_news hcs j u hj) (aCs_one _) (by unfold maxLen; omega) hlen hbase
    unfold Oper.wp execOp
    simp only [ho, resolve, invoke, builtin, Sem.run_bind, Sem.run_pure, Result.andThen_ok, List.map_toArray, List.map_cons, List.map_nil, hs, hx, hr]
    exact h v' w' (by rw [aCs_app]; exact h2) h3 h5
set_option maxRecDepth 100000 in
theorem wpList_append_ins {w : World} {ops : Array Oper} {rest : List Oper} {o : Oper} {a : Act} {Q : Exit → Act → World → Prop} (hgd : o.guard = none) (s x : Operand)
    (ho : o.op = .call { callee := .builtin .append, args := #[s, x], argTypes := #[26, 26] }) (base : Nat) (v : Value) (l : List In) (hs : a.eval s = v) (hown : w.ownsRow base 34 6 v l.length (aCs l))
    (B : Nat) (A : Option Addr) (m c : Nat) (ks : List In) (hx : a.eval x = .slice A m c) (hks : InsAt w B A m ks) (hc : CapOk A m c) (hlen : (l.length + m) * 56 ≤ 140737488355328) (hbase : base ≤ w.heap.size)
    (h : ∀ v' w', w'.ownsRow base 34 6 v' (l.length + m) (aCs (l ++ ks)) → w.grownBy w' v.ownBlock → (v'.ownBlock = v.ownBlock ∨ v'.ownBlock = some w.heap.size) → wpList Tryz.prog ops Q rest (a.put o.dst v') w') :
    wpList Tryz.prog ops Q (o :: rest) a w :=
  wpList_plain hgd fun _K hK => wp_append_ins s x ho base v l hs hown B A m c ks hx hks hc hlen hbase fun v' w' h1 h2 h3 => hK _ _ (h v' w' h1 h2 h3)
/-- a copy of a block, with a row of its own -/
def CloR (w : World) (b : Bk) (e : Ending) (w' : World) : Prop :=
  ∃ A c, e = .returned (b.v A c) ∧ w'.ownsRow w.heap.size 34 6 (.slice A b.code.length c) b.code.length (aCs b.code) ∧ Below w.heap.size w w'
set_option maxRecDepth 100000 in
set_option maxHeartbeats 2000000 in
theorem clone_any (b : Bk) (A : Option Addr) (c : Nat) (w : World) (ha : InsAt w w.heap.size A b.code.length b.code) (hc : CapOk A b.code.length c) (hz : b.code.length * 56 ≤ 140737488355328) :
    Calls Tryz.prog 13 #[b.v A c] w (CloR w b) := by
  obtain ⟨n, hn⟩ : ∃ n, n = b.code.length := ⟨_, rfl⟩
  obtain ⟨w1, hw1⟩ : ∃ X, Hid (X = (w.alloc (.cells (bkC b A n c) 28)).alloc (.cells (bkC zBk none 0 0) 28)) := ⟨_, rfl⟩
  obtain ⟨p, hp⟩ : ∃ p, Hid (p = w.heap.size) := ⟨_, rfl⟩
  obtain ⟨q, hq⟩ : ∃ p, Hid (p = w.heap.size + 1) := ⟨_, rfl⟩
  have HP := Lib.hid (show Blk w1 p 28 (bkC b A n c) by rw [hw1.out, hp.out]; exact (Blk.new _ _ _).alloc _)
  have HQ := Lib.hid (show Blk w1 q 28 (bkC zBk none 0 0) by
    rw [hw1.out, hq.out]
    have h1 := Blk.new (w.alloc (.cells (bkC b A n c) 28)) 28 (bkC zBk none 0 0)
    rw [World.size_alloc] at h1
    exact h1)
  have HK := Lib.hid (show Below w.heap.size w w1 by rw [hw1.out]; exact (bAlloc _ _).alloc (by simp) _)
  have HPQ := Lib.hid (show p ≠ q ∧ w.heap.size ≤ p ∧ w.heap.size ≤ q by rw [hp.out, hq.out]; omega)
  rw [← hn] at ha hc hz
  have HA := Lib.hid (ha.below HK.out)
  have HC := Lib.hid hc
  have HZ := Lib.hid hz
  unfold Bk.v
  rw [← hn]
  have HN := Lib.hid hn
  clear ha hc hz hn
  go_enter Tryz.func13, Tryz.ntmps13
  go_upto_region 1 with fail
  rw [← hw1.out, ← hq.out, ← hp.out]
  have t8 := HP.out.cell 8
  have tl := HP.out.lt
  simp at t8
  go_wp2_with (at_builtin; refine wpList_append_ins rfl (.const (.slice none 0 0)) (.tmp 4) rfl w.heap.size (.slice none 0 0) [] rfl (World.ownsRow_nil _ _ _ _) w.heap.size A n c b.code rfl HA.out HC.out (by have := HZ.out; simp; omega) HK.out.size ?_)
  intro v' w2 ho hg hat
  obtain ⟨A', c', rfl, -⟩ := own_form ho
  have HP2 := Lib.hid (HP.out.grown hg (by simp [Value.ownBlock]))
  have HQ2 := Lib.hid (HQ.out.grown hg (by simp [Value.ownBlock]))
  have HK2 := Lib.hid (show Below w.heap.size w w2 from HK.out.grown hg HK.out.size (fun g e => by simp [Value.ownBlock] at e))
  have HNB := Lib.hid (show (Value.slice A' n c').ownBlock ≠ some p ∧ (Value.slice A' n c').ownBlock ≠ some q by
    have h1 := HP.out.lt
    have h2 := HQ.out.lt
    rcases hat with h | h
    · rw [h]; exact ⟨fun e => by simp [Value.ownBlock] at e, fun e => by simp [Value.ownBlock] at e⟩
    · rw [h]
      exact ⟨fun e => by injection e; omega, fun e => by injection e; omega⟩)
  have HO2 := Lib.hid ho
  clear ho hg hat t8 tl
  have t8 := HP2.out.cell 8
  have f8 := HP2.out.frozen 8
  have tl := HP2.out.lt
  simp at t8
  go_upto_region 2 with fail
  obtain ⟨w3, hw3⟩ : ∃ X, Hid (X = w2.setCell ⟨p, 8, none⟩ (.slice A' n c')) := ⟨_, rfl⟩
  rw [← hw3.out]
  clear t8 f8 tl
  have HP3 := Lib.hid (show Blk w3 p 28 (bkC b A' n c') by rw [hw3.out]; exact HP2.out.set_ 8 _)
  have HQ3 := Lib.hid (show Blk w3 q 28 (bkC zBk none 0 0) by rw [hw3.out]; exact HQ2.out.far (by have := HPQ.out.1; show q ≠ p; omega) _)
  have HK3 := Lib.hid (show Below w.heap.size w w3 by rw [hw3.out]; exact HK2.out.setCell HPQ.out.2.1 _)
  have HO3 := Lib.hid (show w3.ownsRow w.heap.size 34 6 (.slice A' n c') n (aCs b.code) by rw [hw3.out]; exact ownsRow_setCell_other HO2.out HNB.out.1 _)
  clear hw3
  have t0 := HP3.out.cell 0
  have t1 := HP3.out.cell 1
  have t2 := HP3.out.cell 2
  have t3 := HP3.out.cell 3
  have t4 := HP3.out.cell 4
  have t5 := HP3.out.cell 5
  have t6 := HP3.out.cell 6
  have t7 := HP3.out.cell 7
  have t8 := HP3.out.cell 8
  have tl := HP3.out.lt
  simp at t0 t1 t2 t3 t4 t5 t6 t7 t8
  have s0 := HQ3.out.cell 0
  have s1 := HQ3.out.cell 1
  have s2 := HQ3.out.cell 2
  have s3 := HQ3.out.cell 3
  have s4 := HQ3.out.cell 4
  have s5 := HQ3.out.cell 5
  have s6 := HQ3.out.cell 6
  have s7 := HQ3.out.cell 7
  have s8 := HQ3.out.cell 8
  have f0 := HQ3.out.frozen 0
  have f1 := HQ3.out.frozen 1
  have f2 := HQ3.out.frozen 2
  have f3 := HQ3.out.frozen 3
  have f4 := HQ3.out.frozen 4
  have f5 := HQ3.out.frozen 5
  have f6 := HQ3.out.frozen 6
  have f7 := HQ3.out.frozen 7
  have f8 := HQ3.out.frozen 8
  have sl := HQ3.out.lt
  simp at s0 s1 s2 s3 s4 s5 s6 s7 s8
  go_wp2_with fail
  obtain ⟨w4, hw4⟩ : ∃ X, Hid (X = ((((((((w3.setCell ⟨q, 0, none⟩ (.int .i64 b.id)).setCell ⟨q, 1, none⟩ (.string b.pn)).setCell ⟨q, 2, none⟩ (.int .i64 b.par)).setCell ⟨q, 3, none⟩ (.int .i64 b.paux)).setCell ⟨q, 4, none⟩ (.int .i64 b.kk)).setCell ⟨q, 5, none⟩ (.int .i64 b.kn)).setCell ⟨q, 6, none⟩ (.string b.knm)).setCell ⟨q, 7, none⟩ (.int .i64 b.kar)).setCell ⟨q, 8, none⟩ (.slice A' n c')) := ⟨_, rfl⟩
  rw [← hw4.out]
  clear t0 t1 t2 t3 t4 t5 t6 t7 t8 tl s0 s1 s2 s3 s4 s5 s6 s7 s8 sl f0 f1 f2 f3 f4 f5 f6 f7 f8
  have HQ4 := Lib.hid (show Blk w4 q 28 (bkC b A' n c') by
    rw [hw4.out]
    have h := ((((((((HQ3.out.set_ 0 (.int .i64 b.id)).set_ 1 (.string b.pn)).set_ 2 (.int .i64 b.par)).set_ 3 (.int .i64 b.paux)).set_ 4 (.int .i64 b.kk)).set_ 5 (.int .i64 b.kn)).set_ 6 (.string b.knm)).set_ 7 (.int .i64 b.kar)).set_ 8 (.slice A' n c')
    simpa using h)
  have HK4 := Lib.hid (show Below w.heap.size w w4 by
    have hh := HPQ.out.2.2
    rw [hw4.out]
    exact ((((((((HK3.out.setCell hh _).setCell hh _).setCell hh _).setCell hh _).setCell hh _).setCell hh _).setCell hh _).setCell hh _).setCell hh _)
  have HO4 := Lib.hid (show w4.ownsRow w.heap.size 34 6 (.slice A' n c') n (aCs b.code) by
    have hh := HNB.out.2
    rw [hw4.out]
    exact ownsRow_setCell_other (ownsRow_setCell_other (ownsRow_setCell_other (ownsRow_setCell_other (ownsRow_setCell_other (ownsRow_setCell_other (ownsRow_setCell_other (ownsRow_setCell_other (ownsRow_setCell_other HO3.out hh _) hh _) hh _) hh _) hh _) hh _) hh _) hh _) hh _)
  clear hw4
  have t0 := HQ4.out.cell 0
  have t1 := HQ4.out.cell 1
  have t2 := HQ4.out.cell 2
  have t3 := HQ4.out.cell 3
  have t4 := HQ4.out.cell 4
  have t5 := HQ4.out.cell 5
  have t6 := HQ4.out.cell 6
  have t7 := HQ4.out.cell 7
  have t8 := HQ4.out.cell 8
  have tl := HQ4.out.lt
  simp at t0 t1 t2 t3 t4 t5 t6 t7 t8
  refine bodyPost_ret (v := .agg (bkC b A' n c')) (by simp only [results, Tryz.results13]; go_simp) rfl ?_
  exact ⟨A', c', by rw [HN.out], by rw [← HN.out]; exact HO4.out, HK4.out⟩
end Go.Proofs.YtbipeakinmbdiaaGreatDoor
