/-
  Memory for a pair of terms that is unified: the state behind a pointer, the two terms in their boxes.
-/
import Derived.Test.YtpkpdjekoghkcaaUd
namespace Go.Proofs.Ytpkpdjekoghkcaa
open Go.RowKit

/-- one block alone is changed -/
structure Upd (p : Nat) (w w' : World) : Prop where
  os : w'.os = w.os
  tape : w'.tape = w.tape
  output : w'.output = w.output
  size : w'.heap.size = w.heap.size
  block : ∀ g, g ≠ p → w'.heap[g]? = w.heap[g]?
theorem Upd.refl (p : Nat) (w : World) : Upd p w w := ⟨rfl, rfl, rfl, rfl, fun _ _ => rfl⟩
theorem Upd.set {p : Nat} {w w' : World} (h : Upd p w w') (o : Nat) (u : Value) : Upd p w (w'.setCell ⟨p, o, none⟩ u) := by
  have hb : Below 0 w' (w'.setCell ⟨p, o, none⟩ u) := (Below.refl _ _).setCell (Nat.zero_le _) _
  exact ⟨hb.os.trans h.os, hb.tape.trans h.tape, hb.output.trans h.output, (by simp : (w'.setCell ⟨p, o, none⟩ u).heap.size = w'.heap.size).trans h.size, fun g hg => (heap_setCell_other _ _ _ _ (by simpa using hg)).trans (h.block g hg)⟩
/-- all but one block is kept -/
structure KeptQ (q : Nat) (w w' : World) : Prop where
  os : w'.os = w.os
  tape : w'.tape = w.tape
  output : w'.output = w.output
  size : w.heap.size ≤ w'.heap.size
  block : ∀ g, g < w.heap.size → g ≠ q → w'.heap[g]? = w.heap[g]?
theorem KeptQ.of {q : Nat} {w w' : World} (h : Below w.heap.size w w') : KeptQ q w w' := ⟨h.os, h.tape, h.output, h.size, fun g hg _ => h.block g hg⟩
theorem KeptQ.trans {q : Nat} {w w1 w2 : World} (h : KeptQ q w w1) (k : KeptQ q w1 w2) : KeptQ q w w2 :=
  ⟨k.os.trans h.os, k.tape.trans h.tape, k.output.trans h.output, Nat.le_trans h.size k.size, fun g hg hq => (k.block g (Nat.lt_of_lt_of_le hg h.size) hq).trans (h.block g hg hq)⟩
theorem KeptQ.upd {q : Nat} {w w1 w2 : World} (h : KeptQ q w w1) {p : Nat} (k : Upd p w1 w2) (hp : p = q ∨ w.heap.size ≤ p) : KeptQ q w w2 :=
  ⟨k.os.trans h.os, k.tape.trans h.tape, k.output.trans h.output, by rw [k.size]; exact h.size, fun g hg hq => (k.block g (by rcases hp with rfl | h; exact hq; omega)).trans (h.block g hg hq)⟩
/-- the places of the data: none of the boxes -/
def Fq (w : World) (qu r1 r2 : Nat) : Nat → Prop := fun b => b < w.heap.size ∧ b ≠ qu ∧ b ≠ r1 ∧ b ≠ r2
theorem Fq.lt {w : World} {qu r1 r2 b : Nat} (h : Fq w qu r1 r2 b) : b < w.heap.size := h.1
structure PS (w0 : World) (qu r1 r2 : Nat) (A : Option Addr) (c : Nat) (bs : List Bi) (n : Nat) (ta : Tm) (Aa : Option Addr) (ca : Nat) (tb : Tm) (Ab : Option Addr) (cb : Nat) (wr : World) : Prop where
  kept : KeptQ qu w0 wr
  u : Blk wr qu 85 #[.slice A bs.length c, .int .i64 (n : Int)]
  b1 : Blk wr r1 47 #[.int .i64 ta.kind, .int .i64 ta.n, .string ta.name, .slice Aa ta.args.length ca]
  b2 : Blk wr r2 47 #[.int .i64 tb.kind, .int .i64 tb.n, .string tb.name, .slice Ab tb.args.length cb]
  bi : BsAt wr (Fq wr qu r1 r2) A bs
  a1 : ArgsAt wr (Fq wr qu r1 r2) Aa ta.args
  a2 : ArgsAt wr (Fq wr qu r1 r2) Ab tb.args
  g : GoodB bs
  len : bs.length ≤ n
  o1 : TmOk ta
  o2 : TmOk tb
  lo1 : w0.heap.size ≤ r1
  lo2 : w0.heap.size ≤ r2
  n1 : qu ≠ r1
  n2 : qu ≠ r2
  n3 : r1 ≠ r2
section
variable {w0 wr w' : World} {qu r1 r2 c n ca cb : Nat} {A Aa Ab : Option Addr} {bs : List Bi} {ta tb : Tm}
theorem PS.next (h : PS w0 qu r1 r2 A c bs n ta Aa ca tb Ab cb wr) (hb : Below wr.heap.size wr w') : PS w0 qu r1 r2 A c bs n ta Aa ca tb Ab cb w' := by
  have hk : ∀ b, Fq wr qu r1 r2 b → w'.heap[b]? = wr.heap[b]? := fun b h => hb.block b h.1
  have hG : ∀ b, Fq wr qu r1 r2 b → Fq w' qu r1 r2 b := fun b h => ⟨Nat.lt_of_lt_of_le h.1 hb.size, h.2⟩
  exact { h with kept := h.kept.trans (KeptQ.of hb), u := h.u.below hb h.u.lt, b1 := h.b1.below hb h.b1.lt, b2 := h.b2.below hb h.b2.lt, bi := h.bi.keep hk hG, a1 := h.a1.keep hk hG, a2 := h.a2.keep hk hG }
theorem PS.fol (h : PS w0 qu r1 r2 A c bs n ta Aa ca tb Ab cb wr) (hu : Upd r1 wr w') {t : Tm} {At : Option Addr} {ct : Nat} (hb : Blk w' r1 47 #[.int .i64 t.kind, .int .i64 t.n, .string t.name, .slice At t.args.length ct]) (ha : ArgsAt wr (Fq wr qu r1 r2) At t.args) (ho : TmOk t) : PS w0 qu r1 r2 A c bs n t At ct tb Ab cb w' := by
  have hk : ∀ b, Fq wr qu r1 r2 b → w'.heap[b]? = wr.heap[b]? := fun b h => hu.block b h.2.2.1
  have hG : ∀ b, Fq wr qu r1 r2 b → Fq w' qu r1 r2 b := fun b h => ⟨by rw [hu.size]; exact h.1, h.2⟩
  exact { h with kept := h.kept.upd hu (.inr h.lo1), u := (hu.block _ h.n1).trans h.u, b1 := hb, b2 := (hu.block _ (Ne.symm h.n3)).trans h.b2, bi := h.bi.keep hk hG, a1 := ha.keep hk hG, a2 := h.a2.keep hk hG, o1 := ho }
theorem PS.swap (h : PS w0 qu r1 r2 A c bs n ta Aa ca tb Ab cb wr) : PS w0 qu r2 r1 A c bs n tb Ab cb ta Aa ca wr := by
  have hG : ∀ b, Fq wr qu r1 r2 b → Fq wr qu r2 r1 b := fun b h => ⟨h.1, h.2.1, h.2.2.2, h.2.2.1⟩
  exact { kept := h.kept, u := h.u, b1 := h.b2, b2 := h.b1, bi := h.bi.keep (fun _ _ => rfl) hG, a1 := h.a2.keep (fun _ _ => rfl) hG, a2 := h.a1.keep (fun _ _ => rfl) hG, g := h.g, len := h.len, o1 := h.o2, o2 := h.o1, lo1 := h.lo2, lo2 := h.lo1, n1 := h.n2, n2 := h.n1, n3 := Ne.symm h.n3 }
/-- the two boxes are written -/
theorem PS.cross (h : PS w0 qu r1 r2 A c bs n ta Aa ca tb Ab cb wr) {w1 : World} (hu : Upd r1 wr w1) (hb : Blk w1 r1 47 #[.int .i64 tb.kind, .int .i64 tb.n, .string tb.name, .slice Ab tb.args.length cb]) (hu2 : Upd r2 w1 w') (hb2 : Blk w' r2 47 #[.int .i64 ta.kind, .int .i64 ta.n, .string ta.name, .slice Aa ta.args.length ca]) : PS w0 qu r1 r2 A c bs n tb Ab cb ta Aa ca w' := by
  have h1 := (h.fol hu hb h.a2 h.o2).swap
  have hk : ∀ b, Fq wr qu r1 r2 b → w1.heap[b]? = wr.heap[b]? := fun b h => hu.block b h.2.2.1
  have hG : ∀ b, Fq wr qu r1 r2 b → Fq w1 qu r2 r1 b := fun b h => ⟨by rw [hu.size]; exact h.1, h.2.1, h.2.2.2, h.2.2.1⟩
  exact (h1.fol hu2 hb2 (h.a1.keep hk hG) h.o1).swap
theorem PS.setN (h : PS w0 qu r1 r2 A c bs n ta Aa ca tb Ab cb wr) (hu : Upd qu wr w') (hb : Blk w' qu 85 #[.slice A bs.length c, .int .i64 ((n + 1 : Nat) : Int)]) : PS w0 qu r1 r2 A c bs (n + 1) ta Aa ca tb Ab cb w' := by
  have hk : ∀ b, Fq wr qu r1 r2 b → w'.heap[b]? = wr.heap[b]? := fun b h => hu.block b h.2.1
  have hG : ∀ b, Fq wr qu r1 r2 b → Fq w' qu r1 r2 b := fun b h => ⟨by rw [hu.size]; exact h.1, h.2⟩
  exact { h with kept := h.kept.upd hu (.inl rfl), u := hb, b1 := (hu.block _ (Ne.symm h.n1)).trans h.b1, b2 := (hu.block _ (Ne.symm h.n2)).trans h.b2, bi := h.bi.keep hk hG, a1 := h.a1.keep hk hG, a2 := h.a2.keep hk hG, len := Nat.le_succ_of_le h.len }
/-- the new bindings are laid in the state -/
theorem PS.bind (h : PS w0 qu r1 r2 A c bs n ta Aa ca tb Ab cb wr) {v : Int} {t : Tm} {At : Option Addr} {ct : Nat} {w1 : World} (ht : ArgsAt wr (Fq wr qu r1 r2) At t.args) (ho : TmOk t) (hv : t.kind = 0 → t.n < v) (hb : Below wr.heap.size wr w1)
    {A' : Option Addr} {c' : Nat} {bs' : List Bi} (hr : BsRow w1 (fun b => wr.heap.size ≤ b ∧ b < w1.heap.size) A' bs') (hl : bs'.length ≤ bs.length + 1) (hm : ∀ x ∈ bs', x ∈ bs ∨ x = ⟨v, t, At, ct⟩) (hu : Upd qu w1 w') (hk : Blk w' qu 85 #[.slice A' bs'.length c', .int .i64 (n : Int)]) (hn : bs.length + 1 ≤ n) :
    PS w0 qu r1 r2 A' c' bs' n ta Aa ca tb Ab cb w' := by
  have hku : ∀ b, Fq wr qu r1 r2 b → w'.heap[b]? = wr.heap[b]? := fun b h => (hu.block b h.2.1).trans (hb.block b h.1)
  have hG : ∀ b, Fq wr qu r1 r2 b → Fq w' qu r1 r2 b := fun b h => ⟨by rw [hu.size]; exact Nat.lt_of_lt_of_le h.1 hb.size, h.2⟩
  have l0 := h.u.lt
  have l1 := h.b1.lt
  have l2 := h.b2.lt
  refine { h with kept := (h.kept.trans (KeptQ.of hb)).upd hu (.inl rfl), u := hk, b1 := (hu.block _ (Ne.symm h.n1)).trans (h.b1.below hb h.b1.lt), b2 := (hu.block _ (Ne.symm h.n2)).trans (h.b2.below hb h.b2.lt), bi := ⟨fun hp => ?_, fun x hx => ?_⟩, a1 := h.a1.keep hku hG, a2 := h.a2.keep hku hG, g := ⟨fun x hx => ?_, fun x hx => ?_⟩, len := by omega }
  · obtain ⟨b, off, e, hF, hc⟩ := hr hp
    have hcell : ∀ o, w'.cell? ⟨b, o, none⟩ = w1.cell? ⟨b, o, none⟩ := fun o => World.cell?_of_block (w := w1) (w' := w') (a := ⟨b, o, none⟩) (hu.block b (by omega))
    refine ⟨b, off, e, ⟨by rw [hu.size]; exact hF.2, by omega, by omega, by omega⟩, fun i x hx => ?_⟩
    obtain ⟨k0, k1, k2, k3, k4⟩ := hc i x hx
    exact ⟨(hcell _).trans k0, (hcell _).trans k1, (hcell _).trans k2, (hcell _).trans k3, (hcell _).trans k4⟩
  · rcases hm x hx with h1 | rfl
    · exact (h.bi.args x h1).keep hku hG
    · exact ht.keep hku hG
  · rcases hm x hx with h1 | rfl
    · exact h.g.ok x h1
    · exact ho
  · rcases hm x hx with h1 | rfl
    · exact h.g.less x h1
    · exact hv
end
/-- the same functor -/
def SameF (a b : Tm) : Prop := a.kind = b.kind ∧ a.n = b.n ∧ a.name = b.name ∧ a.args.length = b.args.length
/-- the places of the data ahead of a call -/
def Nq (w : World) (qu : Nat) : Nat → Prop := fun b => b < w.heap.size ∧ b ≠ qu
/-- what a call of pair leaves -/
def PrR (qu n : Nat) (a b : Tm) (w : World) (e : Ending) (w' : World) : Prop := ∃ (er : Int) (A' : Option Addr) (c' : Nat) (bs' : List Bi) (n' : Nat), e = .returned (.int .i64 er) ∧ Blk w' qu 85 #[.slice A' bs'.length c', .int .i64 (n' : Int)] ∧ BsAt w' (Nq w' qu) A' bs' ∧ GoodB bs' ∧ bs'.length ≤ n' ∧ n ≤ n' ∧ n' ≤ 1048576 ∧ KeptQ qu w w' ∧ (er = 0 → a.kind ≠ 0 → b.kind ≠ 0 → SameF a b)
theorem PS.ret {w0 wr : World} {qu r1 r2 c n m ca cb : Nat} {A Aa Ab : Option Addr} {bs : List Bi} {ta tb a b : Tm} (h : PS w0 qu r1 r2 A c bs n ta Aa ca tb Ab cb wr) (er : Int) (hm : m ≤ n) (hn : n ≤ 1048576) (hs : er = 0 → a.kind ≠ 0 → b.kind ≠ 0 → SameF a b) : PrR qu m a b w0 (.returned (.int .i64 er)) wr :=
  ⟨er, A, c, bs, n, rfl, h.u, h.bi.keep (fun _ _ => rfl) (fun _ h => ⟨h.1, h.2.1⟩), h.g, h.len, hm, hn, h.kept, hs⟩
end Go.Proofs.Ytpkpdjekoghkcaa
