/-
  Walks: the changes that Get, Skip and Peek make.
-/
import Derived.Test.YtklpghpfdeojeaaSk
import Derived.BigQuiet
import Derived.Deep.QuietTactic
namespace Go.Proofs.Ytklpghpfdeojeaa
open Go.RowKit

theorem own_ty {w : World} {base e size n : Nat} {v : Value} {xs : List Value} (h : w.ownsRow base e size v n xs) {g : Nat} (hg : v.ownBlock = some g) : ∃ cs, w.heap[g]? = some (.cells cs e (0, 0)) := by
  rcases h.2 with ⟨rfl, rfl⟩ | ⟨g', cap, cur, rfl, _, hh, _⟩
  · simp [Value.ownBlock] at hg
  · simp [Value.ownBlock] at hg; subst hg; exact ⟨cur, hh⟩
theorem own_head {w : World} {base e size n : Nat} {v : Value} {xs : List Value} (h : w.ownsRow base e size v n xs) (hn : 0 < n) : ∃ g cap, v = .slice (some ⟨g, 0, none⟩) n cap := by
  rcases h.2 with ⟨rfl, h0⟩ | ⟨g, cap, cur, rfl, _⟩
  · omega
  · exact ⟨_, _, rfl⟩
theorem gCs_set {l : List G} {i : Nat} {x y : G} (hx : l[i]? = some x) (k : Nat) (u : Value) (hk : k < 7) (h : ([.int .i64 y.id, .string y.file, .int .i64 y.mode, .int .i64 y.pos, .string y.alias_, .int .i64 y.eof, .bool y.past] : List Value) = ([.int .i64 x.id, .string x.file, .int .i64 x.mode, .int .i64 x.pos, .string x.alias_, .int .i64 x.eof, .bool x.past] : List Value).set k u) :
    gCs (l.set i y) = (gCs l).set (i * 7 + k) u := by
  induction l generalizing i with
  | nil => simp at hx
  | cons z t ih =>
    cases i with
    | zero =>
      simp at hx
      subst hx
      have hg : ∀ (a : G) (r : List G), gCs (a :: r) = ([.int .i64 a.id, .string a.file, .int .i64 a.mode, .int .i64 a.pos, .string a.alias_, .int .i64 a.eof, .bool a.past] : List Value) ++ gCs r := fun a r => rfl
      rw [List.set_cons_zero, hg, hg, Nat.zero_mul, Nat.zero_add, List.set_append_left _ _ (by simpa using hk), h]
    | succ i =>
      simp at hx
      rw [List.set_cons_succ]
      simp only [gCs]
      rw [ih hx, show (i + 1) * 7 + k = i * 7 + k + 1 + 1 + 1 + 1 + 1 + 1 + 1 by omega]
      simp only [List.set_cons_succ]

/-- the open streams of what a change works on -/
theorem Nw.opens {w : World} {B nb : Nat} {s : Sm} (h : Nw w B nb s) (hn : 0 < s.opn.length) : ∃ v0 g cap, nb < B ∧ B ≤ g ∧ g < w.heap.size ∧ B ≤ w.heap.size ∧ Blk w nb 25 #[v0, .slice (some ⟨g, 0, none⟩) s.opn.length cap, .int .i64 s.inp, .int .i64 s.out, .int .i64 s.nxt] ∧
    w.ownsRow B 35 2 v0 s.files.length (fCs s.files) ∧ w.ownsRow B 52 7 (.slice (some ⟨g, 0, none⟩) s.opn.length cap) s.opn.length (gCs s.opn) ∧ (∀ o, w.frozen? ⟨g, o, none⟩ = false) ∧ (∀ i x, s.opn[i]? = some x → GCells w g (i * 7) x) ∧ v0.ownBlock ≠ some g := by
  obtain ⟨h1, h2, v0, v1, h3, h4, h5⟩ := h
  obtain ⟨g, cap, rfl⟩ := own_head h5 hn
  obtain ⟨hl1, hl2⟩ := h5.lt g rfl
  obtain ⟨cs, hcs⟩ := own_ty h5 (g := g) rfl
  refine ⟨v0, g, cap, h1, hl1, hl2, h2, h3, h4, h5, fun o => frozen_of_row w g o cs 52 hcs, fun i x hx => ?_, fun e => ?_⟩
  · obtain ⟨r0, r1, r2, r3, r4, r5, r6⟩ := gCs_at hx
    have hc : ∀ j u, (gCs s.opn)[j]? = some u → w.cell? ⟨g, j, none⟩ = some u := fun j u hj => by
      have := h5.cells (g := g) rfl j u hj
      rw [add_plain] at this
      simpa using this
    exact ⟨hc _ _ r0, hc _ _ r1, hc _ _ r2, hc _ _ r3, hc _ _ r4, hc _ _ r5, hc _ _ r6⟩
  · obtain ⟨cs', hcs'⟩ := own_ty h4 e
    rw [hcs] at hcs'
    injection hcs' with hcs'
    injection hcs' with _ ht _
    exact absurd ht (by decide)
/-- a cell of a stream is stored -/
theorem Nw.store {w : World} {B nb g cap : Nat} {s : Sm} {v0 : Value} (h1 : nb < B) (h2 : B ≤ w.heap.size) (hg : B ≤ g) (h3 : Blk w nb 25 #[v0, .slice (some ⟨g, 0, none⟩) s.opn.length cap, .int .i64 s.inp, .int .i64 s.out, .int .i64 s.nxt])
    (h4 : w.ownsRow B 35 2 v0 s.files.length (fCs s.files)) (h5 : w.ownsRow B 52 7 (.slice (some ⟨g, 0, none⟩) s.opn.length cap) s.opn.length (gCs s.opn)) (hne : v0.ownBlock ≠ some g)
    (j : Nat) (u : Value) (l : List G) (hl : gCs l = (gCs s.opn).set j u) (hll : l.length = s.opn.length) : Nw (w.setCell ⟨g, j, none⟩ u) B nb { s with opn := l } := by
  refine ⟨h1, by simpa [World.setCell] using h2, v0, .slice (some ⟨g, 0, none⟩) s.opn.length cap, ?_, ?_, ?_⟩
  · exact h3.far (by simp; omega) _
  · exact own_stay h4 fun g' hg' => heap_setCell_other _ _ _ _ (by simp; rintro rfl; exact hne hg')
  · have := (h5.stored j u).1
    rw [← hl] at this
    simpa [hll] using this

/-- Peek changes nothing -/
theorem peek1_any (nb : Nat) (w : World) : Calls Try.prog 48 #[.pointer (some ⟨nb, 0, none⟩)] w fun e w' => e = .returned (.tuple #[]) ∧ w = w' := by
  go_enter Try.func48, Try.ntmps48
  go_wp2
  go_end0
  exact ⟨rfl, rfl⟩

/-- what Get does to a stream -/
def getG (c : Int) (x : G) : G := if 0 ≤ c then { x with pos := x.pos + 1 } else { x with past := !(x.eof == 3) }
set_option maxHeartbeats 1000000 in
theorem get1_any (nb B p1 p2 i : Nat) (c : Int) (s : Sm) (x : G) (w : World) (hn : Nw w B nb s) (h1 : w.cell? ⟨p1, 0, none⟩ = some (.int .i64 (i : Int))) (h2 : w.cell? ⟨p2, 0, none⟩ = some (.int .i64 c)) (hx : s.opn[i]? = some x) (hpos : 0 ≤ x.pos ∧ x.pos ≤ 1000000) (hol : s.opn.length ≤ 1000000) :
    Calls Try.prog 49 #[.pointer (some ⟨nb, 0, none⟩), .pointer (some ⟨p1, 0, none⟩), .pointer (some ⟨p2, 0, none⟩)] w fun e w' => e = .returned (.tuple #[]) ∧ Nw w' B nb { s with opn := s.opn.set i (getG c x) } ∧ Below nb w w' := by
  have hil := (List.getElem?_eq_some_iff.1 hx).1
  obtain ⟨v0, g, cap, a1, a2, a3, a4, hk, hf, ho, hfr, hgc, hne⟩ := hn.opens (by omega)
  obtain ⟨q0, q1, q2, q3, q4, q5, q6⟩ := hgc i x hx
  have n1 := hk.cell 1
  simp at n1
  have zb : nb < w.heap.size := hk.lt
  have f3 := hfr (i * 7 + 3)
  have f6 := hfr (i * 7 + 6)
  have hili : (i : Int) < (s.opn.length : Int) := by omega
  have HX := Lib.hid hx
  have HST := Lib.hid (fun (j : Nat) (u : Value) (l : List G) (hl : gCs l = (gCs s.opn).set j u) (hll : l.length = s.opn.length) => Nw.store a1 a4 a2 hk hf ho hne j u l hl hll)
  clear hn hgc hx hk hf ho hfr
  by_cases hc : 0 ≤ c
  · have d1 : decide (0 ≤ c) = true := by simp; omega
    have HG := Lib.hid (show getG c x = { x with pos := x.pos + 1 } by simp [getG, hc])
    go_enter Try.func49, Try.ntmps49
    go_wp2_with fail
    go_quiet (fail)
    go_wp2_with fail
    go_end0
    refine ⟨rfl, ?_, ?_⟩
    · have h := HST.out (i * 7 + 3) (.int .i64 (x.pos + 1)) (s.opn.set i (getG c x)) (by rw [HG.out]; exact gCs_set HX.out 3 _ (by omega) rfl) (by simp)
      exact h
    · exact (bDrewN (Below.refl nb w) _).setCell (p := ⟨g, i * 7 + 3, none⟩) (by simp; omega) _
  · have d1 : decide (0 ≤ c) = false := by simp; omega
    have HG := Lib.hid (show getG c x = { x with past := !(x.eof == 3) } by simp [getG, hc])
    go_enter Try.func49, Try.ntmps49
    go_wp2_with fail
    go_quiet (fail)
    go_wp2_with fail
    go_end0
    refine ⟨rfl, ?_, ?_⟩
    · have h := HST.out (i * 7 + 6) (.bool (!(x.eof == 3))) (s.opn.set i (getG c x)) (by rw [HG.out]; exact gCs_set HX.out 6 _ (by omega) rfl) (by simp)
      exact h
    · exact (bDrewN (Below.refl nb w) _).setCell (p := ⟨g, i * 7 + 6, none⟩) (by simp; omega) _
end Go.Proofs.Ytklpghpfdeojeaa
