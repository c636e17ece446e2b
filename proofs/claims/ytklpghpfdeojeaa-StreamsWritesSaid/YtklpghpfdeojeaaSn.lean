/-
  Walks: the changes that Skip, Put and Use make.
-/
import Derived.Test.YtklpghpfdeojeaaSm
import Derived.RegionTactic
import Derived.BigQuiet
import Derived.Deep.QuietTactic
namespace Go.Proofs.Ytklpghpfdeojeaa
open Go.RowKit

set_option maxHeartbeats 1000000 in
theorem skip1_any (nb B p1 p2 i : Nat) (c : Int) (s : Sm) (x : G) (w : World) (hn : Nw w B nb s) (h1 : w.cell? ⟨p1, 0, none⟩ = some (.int .i64 (i : Int))) (h2 : w.cell? ⟨p2, 0, none⟩ = some (.int .i64 c)) (hx : s.opn[i]? = some x) (hpos : 0 ≤ x.pos ∧ x.pos ≤ 1000000) (hc : 0 ≤ c ∧ c ≤ 1000000) (hol : s.opn.length ≤ 1000000) :
    Calls Try.prog 73 #[.pointer (some ⟨nb, 0, none⟩), .pointer (some ⟨p1, 0, none⟩), .pointer (some ⟨p2, 0, none⟩)] w fun e w' => e = .returned (.tuple #[]) ∧ Nw w' B nb { s with opn := s.opn.set i { x with pos := x.pos + c } } ∧ Below nb w w' := by
  have hil := (List.getElem?_eq_some_iff.1 hx).1
  obtain ⟨v0, g, cap, a1, a2, a3, a4, hk, hf, ho, hfr, hgc, hne⟩ := hn.opens (by omega)
  obtain ⟨q0, q1, q2, q3, q4, q5, q6⟩ := hgc i x hx
  have n1 := hk.cell 1
  simp at n1
  have zb : nb < w.heap.size := hk.lt
  have f3 := hfr (i * 7 + 3)
  have hili : (i : Int) < (s.opn.length : Int) := by omega
  have hwr : IntKind.i64.wrap (x.pos + c) = x.pos + c := by rw [IntKind.wrap_i64]; omega
  have HX := Lib.hid hx
  have HST := Lib.hid (fun (j : Nat) (u : Value) (l : List G) (hl : gCs l = (gCs s.opn).set j u) (hll : l.length = s.opn.length) => Nw.store a1 a4 a2 hk hf ho hne j u l hl hll)
  clear hn hgc hx hk hf ho hfr
  go_enter Try.func73, Try.ntmps73
  go_wp2_with fail
  go_region
  go_wp2_with fail
  go_end0
  refine ⟨rfl, ?_, ?_⟩
  · have h := HST.out (i * 7 + 3) (.int .i64 (x.pos + c)) (s.opn.set i { x with pos := x.pos + c }) (gCs_set HX.out 3 _ (by omega) rfl) (by simp)
    exact h
  · exact bDrewN ((Below.refl nb w).setCell (p := ⟨g, i * 7 + 3, none⟩) (by simp; omega) _) 1

theorem fCs_set {l : List F} {i : Nat} {x : F} (hx : l[i]? = some x) (t : ByteArray) : fCs (l.set i { x with text := t }) = (fCs l).set (i * 2 + 1) (.string t) := by
  induction l generalizing i with
  | nil => simp at hx
  | cons z r ih =>
    cases i with
    | zero => simp at hx; subst hx; simp [fCs]
    | succ i =>
      simp at hx
      rw [List.set_cons_succ]
      simp only [fCs]
      rw [ih hx, show (i + 1) * 2 + 1 = i * 2 + 1 + 1 + 1 by omega]
      simp only [List.set_cons_succ]
/-- the files of what a change works on -/
theorem Nw.filesG {w : World} {B nb : Nat} {s : Sm} (h : Nw w B nb s) (hn : 0 < s.files.length) : ∃ v1 g cap, nb < B ∧ B ≤ g ∧ g < w.heap.size ∧ B ≤ w.heap.size ∧ Blk w nb 25 #[.slice (some ⟨g, 0, none⟩) s.files.length cap, v1, .int .i64 s.inp, .int .i64 s.out, .int .i64 s.nxt] ∧
    w.ownsRow B 35 2 (.slice (some ⟨g, 0, none⟩) s.files.length cap) s.files.length (fCs s.files) ∧ w.ownsRow B 52 7 v1 s.opn.length (gCs s.opn) ∧ (∀ o, w.frozen? ⟨g, o, none⟩ = false) ∧ (∀ i x, s.files[i]? = some x → FCells w g (i * 2) x) ∧ v1.ownBlock ≠ some g := by
  obtain ⟨h1, h2, v0, v1, h3, h4, h5⟩ := h
  obtain ⟨g, cap, rfl⟩ := own_head h4 hn
  obtain ⟨hl1, hl2⟩ := h4.lt g rfl
  obtain ⟨cs, hcs⟩ := own_ty h4 (g := g) rfl
  refine ⟨v1, g, cap, h1, hl1, hl2, h2, h3, h4, h5, fun o => frozen_of_row w g o cs 35 hcs, fun i x hx => ?_, fun e => ?_⟩
  · obtain ⟨r0, r1⟩ := fCs_at hx
    have hc : ∀ j u, (fCs s.files)[j]? = some u → w.cell? ⟨g, j, none⟩ = some u := fun j u hj => by
      have := h4.cells (g := g) rfl j u hj
      rw [add_plain] at this
      simpa using this
    exact ⟨hc _ _ r0, hc _ _ r1⟩
  · obtain ⟨cs', hcs'⟩ := own_ty h5 e
    rw [hcs] at hcs'
    injection hcs' with hcs'
    injection hcs' with _ ht _
    exact absurd ht (by decide)
/-- a cell of a file is stored -/
theorem Nw.storeF {w : World} {B nb g cap : Nat} {s : Sm} {v1 : Value} (h1 : nb < B) (h2 : B ≤ w.heap.size) (hg : B ≤ g) (h3 : Blk w nb 25 #[.slice (some ⟨g, 0, none⟩) s.files.length cap, v1, .int .i64 s.inp, .int .i64 s.out, .int .i64 s.nxt])
    (h4 : w.ownsRow B 35 2 (.slice (some ⟨g, 0, none⟩) s.files.length cap) s.files.length (fCs s.files)) (h5 : w.ownsRow B 52 7 v1 s.opn.length (gCs s.opn)) (hne : v1.ownBlock ≠ some g)
    (j : Nat) (u : Value) (l : List F) (hl : fCs l = (fCs s.files).set j u) (hll : l.length = s.files.length) : Nw (w.setCell ⟨g, j, none⟩ u) B nb { s with files := l } := by
  refine ⟨h1, by simpa [World.setCell] using h2, .slice (some ⟨g, 0, none⟩) s.files.length cap, v1, ?_, ?_, ?_⟩
  · exact h3.far (by simp; omega) _
  · have := (h4.stored j u).1
    rw [← hl] at this
    simpa [hll] using this
  · exact own_stay h5 fun g' hg' => heap_setCell_other _ _ _ _ (by simp; rintro rfl; exact hne hg')

set_option maxHeartbeats 1000000 in
theorem put1_any (nb B p1 p2 i : Nat) (t : ByteArray) (s : Sm) (x : F) (w : World) (hn : Nw w B nb s) (h1 : w.cell? ⟨p1, 0, none⟩ = some (.int .i64 (i : Int))) (h2 : w.cell? ⟨p2, 0, none⟩ = some (.string t)) (hx : s.files[i]? = some x) (hsz : x.text.size + t.size ≤ 1000000) (hfl : s.files.length ≤ 1000000) :
    Calls Try.prog 53 #[.pointer (some ⟨nb, 0, none⟩), .pointer (some ⟨p1, 0, none⟩), .pointer (some ⟨p2, 0, none⟩)] w fun e w' => e = .returned (.tuple #[]) ∧ Nw w' B nb { s with files := s.files.set i { x with text := x.text ++ t } } ∧ Below nb w w' := by
  have hil := (List.getElem?_eq_some_iff.1 hx).1
  obtain ⟨v1, g, cap, a1, a2, a3, a4, hk, hf, ho, hfr, hgc, hne⟩ := hn.filesG (by omega)
  obtain ⟨q0, q1⟩ := hgc i x hx
  have n1 := hk.cell 0
  simp at n1
  have zb : nb < w.heap.size := hk.lt
  have f1 := hfr (i * 2 + 1)
  have hili : (i : Int) < (s.files.length : Int) := by omega
  have HX := Lib.hid hx
  have HST := Lib.hid (fun (j : Nat) (u : Value) (l : List F) (hl : fCs l = (fCs s.files).set j u) (hll : l.length = s.files.length) => Nw.storeF a1 a4 a2 hk hf ho hne j u l hl hll)
  clear hn hgc hx hk hf ho hfr
  go_enter Try.func53, Try.ntmps53
  go_wp2_with fail
  go_region
  go_wp2_with fail
  go_end0
  refine ⟨rfl, ?_, ?_⟩
  · have h := HST.out (i * 2 + 1) (.string (x.text ++ t)) (s.files.set i { x with text := x.text ++ t }) (fCs_set HX.out _) (by simp)
    exact h
  · exact bDrewN ((Below.refl nb w).setCell (p := ⟨g, i * 2 + 1, none⟩) (by simp; omega) _) 1

/-- what Use does -/
def useS (s : Sm) (m id : Int) : Sm := if m == 1 then { s with inp := id } else { s with out := id }
set_option maxHeartbeats 1000000 in
theorem use1_any (nb B p1 p2 i : Nat) (id : Int) (s : Sm) (x : G) (w : World) (hn : Nw w B nb s) (h1 : w.cell? ⟨p1, 0, none⟩ = some (.int .i64 (i : Int))) (h2 : w.cell? ⟨p2, 0, none⟩ = some (.int .i64 id)) (hx : s.opn[i]? = some x) (hol : s.opn.length ≤ 1000000) :
    Calls Try.prog 51 #[.pointer (some ⟨nb, 0, none⟩), .pointer (some ⟨p1, 0, none⟩), .pointer (some ⟨p2, 0, none⟩)] w fun e w' => e = .returned (.tuple #[]) ∧ Nw w' B nb (useS s x.mode id) ∧ Below nb w w' := by
  have hil := (List.getElem?_eq_some_iff.1 hx).1
  obtain ⟨v0, g, cap, a1, a2, a3, a4, hk, hf, ho, hfr, hgc, hne⟩ := hn.opens (by omega)
  obtain ⟨q0, q1, q2, q3, q4, q5, q6⟩ := hgc i x hx
  have n1 := hk.cell 1
  have n2 := hk.cell 2
  have n3 := hk.cell 3
  have f2 := hk.frozen 2
  have f3 := hk.frozen 3
  simp at n1 n2 n3
  have zb : nb < w.heap.size := hk.lt
  have hili : (i : Int) < (s.opn.length : Int) := by omega
  have HST : ∀ (k : Nat) (s' : Sm), s'.files = s.files → s'.opn = s.opn → #[v0, .slice (some ⟨g, 0, none⟩) s.opn.length cap, .int .i64 s'.inp, .int .i64 s'.out, .int .i64 s'.nxt] = (#[v0, .slice (some ⟨g, 0, none⟩) s.opn.length cap, .int .i64 s.inp, .int .i64 s.out, .int .i64 s.nxt] : Array Value).setIfInBounds k (.int .i64 id) →
      Nw (w.setCell ⟨nb, k, none⟩ (.int .i64 id)) B nb s' := fun k s' e1 e2 e3 => by
    refine ⟨a1, by simpa [World.setCell] using a4, v0, .slice (some ⟨g, 0, none⟩) s.opn.length cap, ?_, ?_, ?_⟩
    · have := hk.set_ k (.int .i64 id)
      rw [← e3] at this
      exact this
    · rw [e1]
      exact own_stay hf fun g' hg' => heap_setCell_other _ _ _ _ (by have := (hf.lt g' hg').1; simp; omega)
    · rw [e2]
      exact own_stay ho fun g' hg' => heap_setCell_other _ _ _ _ (by have := (ho.lt g' hg').1; simp; omega)
  have HST := Lib.hid HST
  clear hn hgc hx hk hf ho hfr
  go_enter Try.func51, Try.ntmps51
  go_wp2_with fail
  go_quiet (fail)
  cases hm : x.mode == 1
  · have HU := Lib.hid (show useS s x.mode id = { s with out := id } by simp [useS, hm])
    go_wp2_with fail
    go_end0
    refine ⟨rfl, ?_, ?_⟩
    · rw [HU.out]
      exact HST.out 3 _ rfl rfl (by simp)
    · exact (bDrewN (Below.refl nb w) _).setCell (p := ⟨nb, 3, none⟩) (by simp) _
  · have HU := Lib.hid (show useS s x.mode id = { s with inp := id } by simp [useS, hm])
    go_wp2_with fail
    go_end0
    refine ⟨rfl, ?_, ?_⟩
    · rw [HU.out]
      exact HST.out 2 _ rfl rfl (by simp)
    · exact (bDrewN (Below.refl nb w) _).setCell (p := ⟨nb, 2, none⟩) (by simp) _
end Go.Proofs.Ytklpghpfdeojeaa
