/-
  A whole copy over a row of the call's own (elements of several cells).
-/
import Derived.Test.YtklpghpfdeojeaaSj
import Derived.Laws.CopyRow
namespace Go.Proofs.Ytklpghpfdeojeaa
open Go.RowKit

theorem run_copy_all {w : World} (t ty e : TypeId) (i : TypeInfo) (size : Nat) (ht : Try.prog.underlying t = some (.slice e)) (hi : Try.prog.info? e = some i) (hsize : i.size = size)
    (base g n cap : Nat) (xs : List Value) (hown : w.ownsRow base e size (.slice (some ⟨g, 0, none⟩) n cap) n xs)
    (A : Option Addr) (c : Nat) (news : List Value) (hcap : CapOk A n c) (hl : news.length = n * size) (hnews : ∀ ad, A = some ad → ∀ j u, news[j]? = some u → w.cell? (ad.add j) = some u) (h1 : ∀ u ∈ news, u.oneCell' = true) :
    ∃ w', (Builtin.copy_ #[t, t] ty #[.slice (some ⟨g, 0, none⟩) n cap, .slice A n c]).run Try.prog w = .ok (goInt n) w' ∧ w'.ownsRow base e size (.slice (some ⟨g, 0, none⟩) n cap) n news ∧ w.grownBy w' (some g) := by
  cases A with
  | none =>
    have hc := hcap.2 rfl
    have hn : n = 0 := by have := hcap.1; omega
    subst hc hn
    have hln : news = [] := List.eq_nil_of_length_eq_zero (by simpa using hl)
    subst hln
    have hx : xs = [] := List.eq_nil_of_length_eq_zero (by simpa using hown.1)
    subst hx
    refine ⟨w, ?_, hown, World.grownBy.refl _ _⟩
    exact run_copy_nil (P := Try.prog) w t t ty e ⟨g, 0, none⟩ 0 cap ht (by simp [hi])
  | some ad =>
    rcases hown.2 with ⟨h0, _⟩ | ⟨g', cap', cur, hv, hb, hg, hnc, hcm, hcs, htake⟩
    · cases h0
    · injection hv with hv1 hv2 hv3
      injection hv1 with hv1
      injection hv1 with hv1
      subst hv1 hv3
      have hle : n * size ≤ cap * size := Nat.mul_le_mul_right _ hnc
      have hf := run_firstCells_some (P := Try.prog) w size n ad n c news hl (hnews ad rfl)
      have hst := run_storeCells_at Try.prog g 0 e news 0 cur w hg (by rw [hl, hcs]; omega) h1
      refine ⟨w.setRow g (cur.toList.take 0 ++ news ++ cur.toList.drop (0 + news.length)).toArray, ?_, ?_, ?_⟩
      · simp only [Nat.add_zero] at hst
        simp [Builtin.copy_, run_underlying ht, Builtin.lenOf, sizeOf, typeInfo, hi, hsize, hf, hst]
      · refine ⟨hl, .inr ⟨g, cap, _, rfl, hb, setRow_heap w g cur _ e (0, 0) hg, hnc, hcm, ?_, ?_⟩⟩
        · have : cur.toList.length = cap * size := by simpa using hcs
          simp
          omega
        · simp [← hl]
      · exact ⟨rfl, rfl, rfl, by simp [World.setRow], fun k _ hk => setRow_other w g k _ (fun e => hk (by rw [e]))⟩

theorem wpList_copy_all {w : World} {ops : Array Oper} {rest : List Oper} {o : Oper} {a : Act} {Q : Exit → Act → World → Prop} (hgd : o.guard = none) (d s : Operand) (t e : TypeId)
    (ho : o.op = .call { callee := .builtin .copy, args := #[d, s], argTypes := #[t, t] }) (i : TypeInfo) (size : Nat) (ht : Try.prog.underlying t = some (.slice e)) (hi : Try.prog.info? e = some i) (hsize : i.size = size)
    (base g n cap : Nat) (xs : List Value) (hd : a.eval d = .slice (some ⟨g, 0, none⟩) n cap) (hown : w.ownsRow base e size (.slice (some ⟨g, 0, none⟩) n cap) n xs)
    (A : Option Addr) (c : Nat) (news : List Value) (hs : a.eval s = .slice A n c) (hcap : CapOk A n c) (hl : news.length = n * size) (hnews : ∀ ad, A = some ad → ∀ j u, news[j]? = some u → w.cell? (ad.add j) = some u) (h1 : ∀ u ∈ news, u.oneCell' = true)
    (h : ∀ w', w'.ownsRow base e size (.slice (some ⟨g, 0, none⟩) n cap) n news → w.grownBy w' (some g) → wpList Try.prog ops Q rest (a.put o.dst (goInt n)) w') : wpList Try.prog ops Q (o :: rest) a w := by
  refine wpList_plain hgd fun K hK => ?_
  obtain ⟨w', hrun, h2, h3⟩ := run_copy_all t o.type e i size ht hi hsize base g n cap xs hown A c news hcap hl hnews h1
  unfold Oper.wp
  simp [execOp, ho, resolve, invoke, builtin, hd, hs, hrun, Result.andThen]
  exact hK _ _ (h w' h2 h3)

/-- what a change works on: a copy of a state, in memory of the call's own -/
def Nw (w : World) (B nb : Nat) (s : Sm) : Prop :=
  nb < B ∧ B ≤ w.heap.size ∧ ∃ v0 v1, Blk w nb 25 #[v0, v1, .int .i64 s.inp, .int .i64 s.out, .int .i64 s.nxt] ∧ w.ownsRow B 35 2 v0 s.files.length (fCs s.files) ∧ w.ownsRow B 52 7 v1 s.opn.length (gCs s.opn)
/-- a state by value, in memory of the call's own -/
def OwnS (w : World) (b : Nat) (v : Value) (s : Sm) : Prop :=
  ∃ v0 v1, v = .agg #[v0, v1, .int .i64 s.inp, .int .i64 s.out, .int .i64 s.nxt] ∧ w.ownsRow b 35 2 v0 s.files.length (fCs s.files) ∧ w.ownsRow b 52 7 v1 s.opn.length (gCs s.opn)
theorem OwnS.read {w : World} {b : Nat} {v : Value} {s : Sm} (h : OwnS w b v s) (hf : s.files.length ≤ 4398046511104) (ho : s.opn.length ≤ 1954687338268) : SmAt w w.heap.size v s := by
  obtain ⟨v0, v1, rfl, h4, h5⟩ := h
  obtain ⟨D0, e0, rfl, hc0, -, h6⟩ := own_files h4 hf
  obtain ⟨D1, e1, rfl, hc1, -, h7⟩ := own_opens h5 ho
  exact ⟨D0, e0, D1, e1, rfl, ⟨hc0, hc1⟩, h6, h7⟩
theorem OwnS.stay {w w' : World} {b : Nat} {v : Value} {s : Sm} (h : OwnS w b v s) (hk : ∀ g, b ≤ g → g < w.heap.size → w'.heap[g]? = w.heap[g]?) : OwnS w' b v s := by
  obtain ⟨v0, v1, e, h4, h5⟩ := h
  exact ⟨v0, v1, e, own_stay h4 fun g hg => hk g (h4.lt g hg).1 (h4.lt g hg).2, own_stay h5 fun g hg => hk g (h5.lt g hg).1 (h5.lt g hg).2⟩
theorem OwnS.base {w : World} {b b' : Nat} {v : Value} {s : Sm} (h : OwnS w b v s) (hb : b' ≤ b) : OwnS w b' v s := by
  obtain ⟨v0, v1, e, h4, h5⟩ := h
  exact ⟨v0, v1, e, own_base h4 hb, own_base h5 hb⟩
theorem OwnS.next {w w' : World} {b : Nat} {v : Value} {s : Sm} (h : OwnS w b v s) (hb : Below w.heap.size w w') : OwnS w' b v s := h.stay fun g _ hg => hb.block g hg
end Go.Proofs.Ytklpghpfdeojeaa
