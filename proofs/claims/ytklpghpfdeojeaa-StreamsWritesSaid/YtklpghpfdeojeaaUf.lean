/-
  Walk: the change of Close.
-/
import Derived.Test.YtklpghpfdeojeaaUb
import Derived.BigQuiet
import Derived.Deep.QuietTactic
namespace Go.Proofs.Ytklpghpfdeojeaa
open Go.RowKit

theorem own_take {w : World} {base e size g n cap : Nat} {xs : List Value} (h : w.ownsRow base e size (.slice (some ⟨g, 0, none⟩) n cap) n xs) {i : Nat} (hi : i ≤ n) : w.ownsRow base e size (.slice (some ⟨g, 0, none⟩) i cap) i (xs.take (i * size)) := by
  have hle : i * size ≤ n * size := Nat.mul_le_mul_right _ hi
  refine ⟨by rw [List.length_take, h.1]; omega, ?_⟩
  rcases h.2 with ⟨h0, -⟩ | ⟨g', cap', cur, hv, hg, hh, hc, hm, hs, ht⟩
  · cases h0
  · injection hv with h1 _ h3
    injection h1 with h1
    injection h1 with h1
    subst h1 h3
    refine .inr ⟨g, cap, cur, rfl, hg, hh, by omega, hm, hs, ?_⟩
    rw [← ht, List.take_take]
    congr 1
    omega
theorem gCs_take (l : List G) (i : Nat) : (gCs l).take (i * 7) = gCs (l.take i) := by
  induction l generalizing i with
  | nil => simp [gCs]
  | cons x t ih =>
    cases i with
    | zero => simp [gCs]
    | succ i => rw [List.take_succ_cons, show (i + 1) * 7 = i * 7 + 7 by omega]; simp [gCs, ih]
theorem gCs_drop (l : List G) (i : Nat) : (gCs l).drop (i * 7) = gCs (l.drop i) := by
  induction l generalizing i with
  | nil => simp [gCs]
  | cons x t ih =>
    cases i with
    | zero => simp [gCs]
    | succ i => rw [List.drop_succ_cons, show (i + 1) * 7 = i * 7 + 7 by omega]; simp [gCs, ih]
theorem gCs_erase (l : List G) (i : Nat) : gCs (l.eraseIdx i) = (gCs l).take (i * 7) ++ gCs (l.drop (i + 1)) := by
  rw [List.eraseIdx_eq_take_drop_succ, gCs_app, gCs_take]
/-- the state while Close changes it -/
theorem close1_row {w : World} {B g n cap : Nat} {l : List G} (h : w.ownsRow B 52 7 (.slice (some ⟨g, 0, none⟩) n cap) n (gCs l)) {i : Nat} (_hi : i < n) :
    ∀ j u, (gCs (l.drop (i + 1)))[j]? = some u → w.cell? ⟨g, (i + 1) * 7 + j, none⟩ = some u := by
  intro j u hj
  have hc := h.cells (g := g) rfl ((i + 1) * 7 + j) u
  rw [add_plain, Nat.zero_add] at hc
  refine hc ?_
  rw [← gCs_drop, List.getElem?_drop] at hj
  exact hj
theorem Nw.setIn {w : World} {B nb : Nat} {s : Sm} (h : Nw w B nb s) (v : Int) : Nw (w.setCell ⟨nb, 2, none⟩ (.int .i64 v)) B nb { s with inp := v } := by
  obtain ⟨h1, h2, v0, v1, h3, h4, h5⟩ := h
  refine ⟨h1, by simpa [World.setCell] using h2, v0, v1, ?_, own_stay h4 fun g hg => heap_setCell_other _ _ _ _ (by have := (h4.lt g hg).1; simp; omega), own_stay h5 fun g hg => heap_setCell_other _ _ _ _ (by have := (h5.lt g hg).1; simp; omega)⟩
  have := h3.set_ 2 (.int .i64 v)
  simpa using this
theorem Nw.setOut {w : World} {B nb : Nat} {s : Sm} (h : Nw w B nb s) (v : Int) : Nw (w.setCell ⟨nb, 3, none⟩ (.int .i64 v)) B nb { s with out := v } := by
  obtain ⟨h1, h2, v0, v1, h3, h4, h5⟩ := h
  refine ⟨h1, by simpa [World.setCell] using h2, v0, v1, ?_, own_stay h4 fun g hg => heap_setCell_other _ _ _ _ (by have := (h4.lt g hg).1; simp; omega), own_stay h5 fun g hg => heap_setCell_other _ _ _ _ (by have := (h5.lt g hg).1; simp; omega)⟩
  have := h3.set_ 3 (.int .i64 v)
  simpa using this
theorem Nw.io {w : World} {B nb : Nat} {s : Sm} (h : Nw w B nb s) : w.cell? ⟨nb, 2, none⟩ = some (.int .i64 s.inp) ∧ w.cell? ⟨nb, 3, none⟩ = some (.int .i64 s.out) ∧ w.frozen? ⟨nb, 2, none⟩ = false ∧ w.frozen? ⟨nb, 3, none⟩ = false ∧ nb < w.heap.size := by
  obtain ⟨h1, h2, v0, v1, h3, h4, h5⟩ := h
  have c2 := h3.cell 2
  have c3 := h3.cell 3
  simp at c2 c3
  exact ⟨c2, c3, h3.frozen 2, h3.frozen 3, h3.lt⟩
theorem Nw.drewN {w : World} {B nb : Nat} {s : Sm} (h : Nw w B nb s) (k : Nat) : Nw (w.drewN k) B nb s := h
theorem close1_end {w w2 : World} {B g nb n cap m i : Nat} {s : Sm} {v0 v2 : Value} (hk : Blk w2 nb 25 #[v0, .slice (some ⟨g, 0, none⟩) n cap, .int .i64 s.inp, .int .i64 s.out, .int .i64 s.nxt]) (hnb : nb < B) (hB : B ≤ w2.heap.size)
    (hf : w2.ownsRow B 35 2 v0 s.files.length (fCs s.files)) (ho : w2.ownsRow B 52 7 v2 m (gCs (s.opn.eraseIdx i))) (hm : (s.opn.eraseIdx i).length = m) (hb : Below nb w w2) :
    Nw (w2.setCell ⟨nb, 1, none⟩ v2) B nb { s with opn := s.opn.eraseIdx i } ∧ Below nb w (w2.setCell ⟨nb, 1, none⟩ v2) := by
  refine ⟨⟨hnb, by simpa [World.setCell] using hB, v0, v2, ?_, own_stay hf fun g hg => heap_setCell_other _ _ _ _ (by have := (hf.lt g hg).1; simp; omega), ?_⟩, hb.setCell (by simp) _⟩
  · have := hk.set_ 1 v2
    simpa using this
  · rw [hm]
    exact own_stay ho fun g hg => heap_setCell_other _ _ _ _ (by have := (ho.lt g hg).1; simp; omega)

set_option maxHeartbeats 4000000 in
theorem close1_any (nb B p1 p2 i : Nat) (id : Int) (s : Sm) (w : World) (hn : Nw w B nb s) (hp1 : p1 < nb) (hp2 : p2 < nb) (h1 : w.cell? ⟨p1, 0, none⟩ = some (.int .i64 (i : Int))) (h2 : w.cell? ⟨p2, 0, none⟩ = some (.int .i64 id)) (hi : i < s.opn.length) (hol : s.opn.length ≤ 1000000) :
    Calls Try.prog 52 #[.pointer (some ⟨nb, 0, none⟩), .pointer (some ⟨p1, 0, none⟩), .pointer (some ⟨p2, 0, none⟩)] w fun e w' => e = .returned (.tuple #[]) ∧ Nw w' B nb (closeS s i id) ∧ Below nb w w' := by
  obtain ⟨i1, hi1, hz1, hy1, hb1⟩ := info_parts info52
  obtain ⟨v0, g, cap, a1, a2, a3, a4, hk, hf, ho, -, -, hne⟩ := hn.opens (by omega)
  have hcap : s.opn.length ≤ cap := (own_form ho).elim fun A ⟨c, e, hc⟩ => by injection e with _ _ e3; subst e3; exact hc.1
  have n1 := hk.cell 1
  simp at n1
  have zb : nb < w.heap.size := hk.lt
  have HT := Lib.hid (own_take ho (i := i) (by omega))
  have HRW := Lib.hid (close1_row ho hi)
  have hili : (i : Int) < (s.opn.length : Int) := by omega
  have hwr : IntKind.i64.wrap ((i : Int) + 1) = (i : Int) + 1 := by rw [IntKind.wrap_i64]; omega
  have hicap : i ≤ cap := by omega
  have hi0 : (0 : Int) ≤ (i : Int) + 1 := by omega
  have hin1 : i + 1 ≤ s.opn.length := by omega
  have hin2 : (i : Int) + 1 ≤ (s.opn.length : Int) := by omega
  have HK := Lib.hid hk
  have HF := Lib.hid hf
  have HE := Lib.hid hne
  clear hn hk hf ho hne
  rcases Nat.lt_or_ge (i + 1) cap with hic | hic
  · have hic2 : ¬ cap = i + 1 := by omega
    go_enter Try.func52, Try.ntmps52
    go_wp2_with fail
    refine wp_region_N (fun w' => w'.cell? ⟨nb, 1, none⟩ = some (.slice (some ⟨g, 0, none⟩) s.opn.length cap) ∧ w'.cell? ⟨p1, 0, none⟩ = some (.int .i64 (i : Int))) (fun j => decide (j < 15)) (by kernel_rfl) ?_
    have hS0 : (fun w' => w'.cell? ⟨nb, 1, none⟩ = some (.slice (some ⟨g, 0, none⟩) s.opn.length cap) ∧ w'.cell? ⟨p1, 0, none⟩ = some (.int .i64 (i : Int))) w.drew := ⟨n1, h1⟩
    refine wpAnyN_take (i := 0) (v := ?v1) rfl (by kernel_rfl) (by kernel_rfl) (by kernel_rfl) (by kernel_rfl) (fun _ _ _ h => h) (Or.inl ⟨by rfl, ?hy1⟩) (by assumption) ?_
    case hy1 => intro w hSw; (try dsimp only at hSw); go_simp; try with_reducible rfl
    simp only [Act.put, List.getElem_toArray, List.getElem_cons_zero, List.setIfInBounds_toArray, List.set_cons_zero, List.set_cons_succ]
    refine wpAnyN_take (i := 1) (v := ?v2) rfl (by kernel_rfl) (by kernel_rfl) (by kernel_rfl) (by kernel_rfl) (fun _ _ _ h => h) (Or.inl ⟨by rfl, ?hy2⟩) (by assumption) ?_
    case hy2 => intro w hSw; (try dsimp only at hSw); go_simp; try with_reducible rfl
    simp only [Act.put, List.getElem_toArray, List.getElem_cons_zero, List.getElem_cons_succ, List.setIfInBounds_toArray, List.set_cons_zero, List.set_cons_succ]
    refine wpAnyN_take (i := 2) (v := ?v3) rfl (by kernel_rfl) (by kernel_rfl) (by kernel_rfl) (by kernel_rfl) (fun _ _ _ h => h) (Or.inl ⟨by rfl, ?hy3⟩) (by assumption) ?_
    case hy3 => intro w hSw; (try dsimp only at hSw); go_simp; try with_reducible rfl
    simp only [Act.put, List.getElem_toArray, List.getElem_cons_zero, List.getElem_cons_succ, List.setIfInBounds_toArray, List.set_cons_zero, List.set_cons_succ]
    refine wpAnyN_take (i := 3) (v := ?v4) rfl (by kernel_rfl) (by kernel_rfl) (by kernel_rfl) (by kernel_rfl) (fun _ _ _ h => h) (Or.inl ⟨by rfl, ?hy4⟩) (by assumption) ?_
    case hy4 => intro w hSw; (try dsimp only at hSw); go_simp; try with_reducible rfl
    simp only [Act.put, List.getElem_toArray, List.getElem_cons_zero, List.getElem_cons_succ, List.setIfInBounds_toArray, List.set_cons_zero, List.set_cons_succ]
    refine wpAnyN_take (i := 4) (v := ?v5) rfl (by kernel_rfl) (by kernel_rfl) (by kernel_rfl) (by kernel_rfl) (fun _ _ _ h => h) (Or.inl ⟨by rfl, ?hy5⟩) (by assumption) ?_
    case hy5 => intro w hSw; (try dsimp only at hSw); go_simp; try with_reducible rfl
    simp only [Act.put, List.getElem_toArray, List.getElem_cons_zero, List.getElem_cons_succ, List.setIfInBounds_toArray, List.set_cons_zero, List.set_cons_succ]
    refine wpAnyN_take (i := 5) (v := ?v6) rfl (by kernel_rfl) (by kernel_rfl) (by kernel_rfl) (by kernel_rfl) (fun _ _ _ h => h) (Or.inl ⟨by rfl, ?hy6⟩) (by assumption) ?_
    case hy6 => intro w hSw; (try dsimp only at hSw); go_simp; try with_reducible rfl
    simp only [Act.put, List.getElem_toArray, List.getElem_cons_zero, List.getElem_cons_succ, List.setIfInBounds_toArray, List.set_cons_zero, List.set_cons_succ]
    refine wpAnyN_take (i := 6) (v := ?v7) rfl (by kernel_rfl) (by kernel_rfl) (by kernel_rfl) (by kernel_rfl) (fun _ _ _ h => h) (Or.inl ⟨by rfl, ?hy7⟩) (by assumption) ?_
    case hy7 => intro w hSw; (try dsimp only at hSw); go_simp; try with_reducible rfl
    simp only [Act.put, List.getElem_toArray, List.getElem_cons_zero, List.getElem_cons_succ, List.setIfInBounds_toArray, List.set_cons_zero, List.set_cons_succ]
    refine wpAnyN_take (i := 7) (v := ?v8) rfl (by kernel_rfl) (by kernel_rfl) (by kernel_rfl) (by kernel_rfl) (fun _ _ _ h => h) (Or.inl ⟨by rfl, ?hy8⟩) (by assumption) ?_
    case hy8 => intro w hSw; (try dsimp only at hSw); go_simp; try with_reducible rfl
    simp only [Act.put, List.getElem_toArray, List.getElem_cons_zero, List.getElem_cons_succ, List.setIfInBounds_toArray, List.set_cons_zero, List.set_cons_succ]
    refine wpAnyN_take (i := 8) (v := ?v9) rfl (by kernel_rfl) (by kernel_rfl) (by kernel_rfl) (by kernel_rfl) (fun _ _ _ h => h) (Or.inl ⟨by rfl, ?hy9⟩) (by assumption) ?_
    case hy9 => intro w hSw; (try dsimp only at hSw); go_simp; try with_reducible rfl
    simp only [Act.put, List.getElem_toArray, List.getElem_cons_zero, List.getElem_cons_succ, List.setIfInBounds_toArray, List.set_cons_zero, List.set_cons_succ]
    refine wpAnyN_take (i := 9) (v := ?v10) rfl (by kernel_rfl) (by kernel_rfl) (by kernel_rfl) (by kernel_rfl) (fun _ _ _ h => h) (Or.inl ⟨by rfl, ?hy10⟩) (by assumption) ?_
    case hy10 => intro w hSw; (try dsimp only at hSw); go_simp; try with_reducible rfl
    simp only [Act.put, List.getElem_toArray, List.getElem_cons_zero, List.getElem_cons_succ, List.setIfInBounds_toArray, List.set_cons_zero, List.set_cons_succ]
    refine wpAnyN_take (i := 10) (v := ?v11) rfl (by kernel_rfl) (by kernel_rfl) (by kernel_rfl) (by kernel_rfl) (fun _ _ _ h => h) (Or.inl ⟨by rfl, ?hy11⟩) (by assumption) ?_
    case hy11 => intro w hSw; (try dsimp only at hSw); go_simp; try with_reducible rfl
    simp only [Act.put, List.getElem_toArray, List.getElem_cons_zero, List.getElem_cons_succ, List.setIfInBounds_toArray, List.set_cons_zero, List.set_cons_succ]
    refine wpAnyN_take (i := 11) (v := ?v12) rfl (by kernel_rfl) (by kernel_rfl) (by kernel_rfl) (by kernel_rfl) (fun _ _ _ h => h) (Or.inl ⟨by rfl, ?hy12⟩) (by assumption) ?_
    case hy12 => intro w hSw; (try dsimp only at hSw); go_simp; try with_reducible rfl
    simp only [Act.put, List.getElem_toArray, List.getElem_cons_zero, List.getElem_cons_succ, List.setIfInBounds_toArray, List.set_cons_zero, List.set_cons_succ]
    refine wpAnyN_take (i := 12) (v := ?v13) rfl (by kernel_rfl) (by kernel_rfl) (by kernel_rfl) (by kernel_rfl) (fun _ _ _ h => h) (Or.inl ⟨by rfl, ?hy13⟩) (by assumption) ?_
    case hy13 => intro w hSw; (try dsimp only at hSw); go_simp; try with_reducible rfl
    simp only [Act.put, List.getElem_toArray, List.getElem_cons_zero, List.getElem_cons_succ, List.setIfInBounds_toArray, List.set_cons_zero, List.set_cons_succ]
    refine wpAnyN_take (i := 13) (v := ?v14) rfl (by kernel_rfl) (by kernel_rfl) (by kernel_rfl) (by kernel_rfl) (fun _ _ _ h => h) (Or.inl ⟨by rfl, ?hy14⟩) (by assumption) ?_
    case hy14 => intro w hSw; (try dsimp only at hSw); go_simp; try with_reducible rfl
    simp only [Act.put, List.getElem_toArray, List.getElem_cons_zero, List.getElem_cons_succ, List.setIfInBounds_toArray, List.set_cons_zero, List.set_cons_succ]
    refine wpAnyN_one (i := 14) (by kernel_rfl) rfl (fun K hK => ?_)
    simp only [List.getElem_toArray, List.getElem_cons_zero, List.getElem_cons_succ]
    rw [if_pos (by rfl)]
    refine wp_append_own _ (.tmp 10) (.tmp 17) 23 rfl B 52 i1 _ 7 72 Try.underlying23 hi1 hz1 hy1 hb1 rfl (by decide) (.slice (some ⟨g, 0, none⟩) i cap) i ((gCs s.opn).take (i * 7)) rfl HT.out.drew ⟨g, (i + 1) * 7, none⟩ (s.opn.length - (i + 1)) (cap - (i + 1)) (gCs (s.opn.drop (i + 1))) rfl ?c1 ?c2 (g_one _) ?c4 ?c5 ?c6 ?_
    case c1 => rw [gCs_len, List.length_drop]
    case c2 => intro j u hj; rw [add_plain]; exact HRW.out j u hj
    case c4 => unfold maxLen; omega
    case c5 => omega
    case c6 => exact a4
    intro v2 w2 ho2 hg2 _
    rw [← gCs_erase] at ho2
    have hm2 : (s.opn.eraseIdx i).length = i + (s.opn.length - (i + 1)) := by rw [List.length_eraseIdx, if_pos hi]; omega
    obtain ⟨D, e, rfl, -⟩ := own_form ho2
    have hgn : Value.ownBlock (.slice (some ⟨g, 0, none⟩) i cap) ≠ some nb := fun h => by simp [Value.ownBlock] at h; omega
    have k2 : Blk w2 nb 25 _ := Blk.grown (w := w.drew) HK.out hg2 hgn
    have hb2 : Below nb w w2 := (bDrewN (Below.refl nb w) 1).grown hg2 (by simp; omega) (fun k hk => by simp [Value.ownBlock] at hk; omega)
    have hz2 := hg2.size
    simp at hz2
    have hf2 : w2.ownsRow B 35 2 v0 s.files.length (fCs s.files) := own_stay HF.out fun g' hg' => hg2.block g' (HF.out.lt g' hg').2 (fun e => by simp [Value.ownBlock] at e; subst e; exact HE.out hg')
    have HEND := Lib.hid (close1_end k2 a1 (by omega) hf2 ho2 hm2 hb2)
    have y1 := k2.cell 1
    have y1f := k2.frozen 1
    have yz := k2.lt
    simp at y1
    have hS2 : (fun w' => w'.cell? ⟨nb, 1, none⟩ = some (.slice (some ⟨g, 0, none⟩) s.opn.length cap) ∧ w'.cell? ⟨p1, 0, none⟩ = some (.int .i64 (i : Int))) w2 := ⟨y1, (hb2.cell (p := ⟨p1, 0, none⟩) hp1).trans h1⟩
    refine hK _ _ (fun _ => hS2) ?_
    (try simp only [Act.put, List.setIfInBounds_toArray, List.set_cons_zero, List.set_cons_succ])
    refine wpAnyN_one (i := 15) (by kernel_rfl) rfl (fun K hK => ?_)
    simp only [List.getElem_toArray, List.getElem_cons_zero, List.getElem_cons_succ]
    go_simp
    refine hK _ _ (fun h => absurd h (by decide)) ?_
    refine wpAnyN_one (i := 16) (by kernel_rfl) rfl (fun K hK => ?_)
    simp only [List.getElem_toArray, List.getElem_cons_zero, List.getElem_cons_succ]
    go_simp
    refine hK _ _ (fun h => absurd h (by decide)) ?_
    refine wpAnyN_one (i := 17) (by kernel_rfl) rfl (fun K hK => ?_)
    simp only [List.getElem_toArray, List.getElem_cons_zero, List.getElem_cons_succ]
    go_simp
    refine hK _ _ (fun h => absurd h (by decide)) ?_
    refine wpAnyN_done (by kernel_rfl) ?_ _
    clear hS0 hS2 ho2 hg2 hm2 hgn k2 hb2 hz2 hf2 y1 y1f yz n1 h1
    obtain ⟨w3, HW3⟩ : ∃ w3, Hid (w3 = w2.setCell ⟨nb, 1, none⟩ (.slice D (i + (s.opn.length - (i + 1))) e)) := ⟨_, rfl⟩
    rw [← HW3.out]
    rw [← HW3.out] at HEND
    obtain ⟨c2, c3, f2, f3, hz3⟩ := Nw.io HEND.out.1
    have q2 := (HEND.out.2.cell (p := ⟨p2, 0, none⟩) hp2).trans h2
    have zp2 : p2 < w3.heap.size := by omega
    clear h2 HW3
    simp only [] at c2 c3
    cases hin : s.inp == id
    · cases hou : s.out == id
      · have HC := Lib.hid (show closeS s i id = { s with opn := s.opn.eraseIdx i } by unfold closeS; rw [hin, hou]; rfl)
        go_wp2_with fail
        go_quiet (fail)
        go_wp2_with fail
        go_quiet (fail)
        go_wp2_with fail
        go_end0
        rw [HC.out]
        exact ⟨rfl, HEND.out.1, bDrewN (bDrewN HEND.out.2 _) _⟩
      · have HC := Lib.hid (show closeS s i id = { s with opn := s.opn.eraseIdx i, out := 1 } by unfold closeS; rw [hin, hou]; rfl)
        go_wp2_with fail
        go_quiet (fail)
        go_wp2_with fail
        go_quiet (fail)
        go_wp2_with fail
        go_end0
        rw [HC.out]
        exact ⟨rfl, HEND.out.1.setOut 1, (bDrewN HEND.out.2 _).setCell (Nat.le_refl _) _⟩
    · cases hou : s.out == id
      · have HC := Lib.hid (show closeS s i id = { s with opn := s.opn.eraseIdx i, inp := 0 } by unfold closeS; rw [hin, hou]; rfl)
        go_wp2_with fail
        go_quiet (fail)
        go_wp2_with fail
        go_quiet (fail)
        go_wp2_with fail
        go_end0
        rw [HC.out]
        exact ⟨rfl, HEND.out.1.setIn 0, bDrewN ((bDrewN HEND.out.2 _).setCell (Nat.le_refl _) _) _⟩
      · have HC := Lib.hid (show closeS s i id = { s with opn := s.opn.eraseIdx i, inp := 0, out := 1 } by unfold closeS; rw [hin, hou]; rfl)
        go_wp2_with fail
        go_quiet (fail)
        go_wp2_with fail
        go_quiet (fail)
        go_wp2_with fail
        go_end0
        rw [HC.out]
        exact ⟨rfl, (HEND.out.1.setIn 0).setOut 1, (bDrewN ((bDrewN HEND.out.2 _).setCell (Nat.le_refl _) _) _).setCell (Nat.le_refl _) _⟩
  · obtain rfl : cap = i + 1 := by omega
    have hlm : s.opn.length - (i + 1) = 0 := by omega
    have HLM := Lib.hid hlm
    have hii : (i : Int) ≤ (i : Int) + 1 := by omega
    clear hlm
    go_enter Try.func52, Try.ntmps52
    go_wp2_with fail
    refine wp_region_N (fun w' => w'.cell? ⟨nb, 1, none⟩ = some (.slice (some ⟨g, 0, none⟩) s.opn.length (i + 1)) ∧ w'.cell? ⟨p1, 0, none⟩ = some (.int .i64 (i : Int))) (fun j => decide (j < 15)) (by kernel_rfl) ?_
    have hS0 : (fun w' => w'.cell? ⟨nb, 1, none⟩ = some (.slice (some ⟨g, 0, none⟩) s.opn.length (i + 1)) ∧ w'.cell? ⟨p1, 0, none⟩ = some (.int .i64 (i : Int))) w.drew := ⟨n1, h1⟩
    refine wpAnyN_take (i := 0) (v := ?v15) rfl (by kernel_rfl) (by kernel_rfl) (by kernel_rfl) (by kernel_rfl) (fun _ _ _ h => h) (Or.inl ⟨by rfl, ?hy15⟩) (by assumption) ?_
    case hy15 => intro w hSw; (try dsimp only at hSw); go_simp; try with_reducible rfl
    simp only [Act.put, List.getElem_toArray, List.getElem_cons_zero, List.setIfInBounds_toArray, List.set_cons_zero, List.set_cons_succ]
    refine wpAnyN_take (i := 1) (v := ?v16) rfl (by kernel_rfl) (by kernel_rfl) (by kernel_rfl) (by kernel_rfl) (fun _ _ _ h => h) (Or.inl ⟨by rfl, ?hy16⟩) (by assumption) ?_
    case hy16 => intro w hSw; (try dsimp only at hSw); go_simp; try with_reducible rfl
    simp only [Act.put, List.getElem_toArray, List.getElem_cons_zero, List.getElem_cons_succ, List.setIfInBounds_toArray, List.set_cons_zero, List.set_cons_succ]
    refine wpAnyN_take (i := 2) (v := ?v17) rfl (by kernel_rfl) (by kernel_rfl) (by kernel_rfl) (by kernel_rfl) (fun _ _ _ h => h) (Or.inl ⟨by rfl, ?hy17⟩) (by assumption) ?_
    case hy17 => intro w hSw; (try dsimp only at hSw); go_simp; try with_reducible rfl
    simp only [Act.put, List.getElem_toArray, List.getElem_cons_zero, List.getElem_cons_succ, List.setIfInBounds_toArray, List.set_cons_zero, List.set_cons_succ]
    refine wpAnyN_take (i := 3) (v := ?v18) rfl (by kernel_rfl) (by kernel_rfl) (by kernel_rfl) (by kernel_rfl) (fun _ _ _ h => h) (Or.inl ⟨by rfl, ?hy18⟩) (by assumption) ?_
    case hy18 => intro w hSw; (try dsimp only at hSw); go_simp; try with_reducible rfl
    simp only [Act.put, List.getElem_toArray, List.getElem_cons_zero, List.getElem_cons_succ, List.setIfInBounds_toArray, List.set_cons_zero, List.set_cons_succ]
    refine wpAnyN_take (i := 4) (v := ?v19) rfl (by kernel_rfl) (by kernel_rfl) (by kernel_rfl) (by kernel_rfl) (fun _ _ _ h => h) (Or.inl ⟨by rfl, ?hy19⟩) (by assumption) ?_
    case hy19 => intro w hSw; (try dsimp only at hSw); go_simp; try with_reducible rfl
    simp only [Act.put, List.getElem_toArray, List.getElem_cons_zero, List.getElem_cons_succ, List.setIfInBounds_toArray, List.set_cons_zero, List.set_cons_succ]
    refine wpAnyN_take (i := 5) (v := ?v20) rfl (by kernel_rfl) (by kernel_rfl) (by kernel_rfl) (by kernel_rfl) (fun _ _ _ h => h) (Or.inl ⟨by rfl, ?hy20⟩) (by assumption) ?_
    case hy20 => intro w hSw; (try dsimp only at hSw); go_simp; try with_reducible rfl
    simp only [Act.put, List.getElem_toArray, List.getElem_cons_zero, List.getElem_cons_succ, List.setIfInBounds_toArray, List.set_cons_zero, List.set_cons_succ]
    refine wpAnyN_take (i := 6) (v := ?v21) rfl (by kernel_rfl) (by kernel_rfl) (by kernel_rfl) (by kernel_rfl) (fun _ _ _ h => h) (Or.inl ⟨by rfl, ?hy21⟩) (by assumption) ?_
    case hy21 => intro w hSw; (try dsimp only at hSw); go_simp; try with_reducible rfl
    simp only [Act.put, List.getElem_toArray, List.getElem_cons_zero, List.getElem_cons_succ, List.setIfInBounds_toArray, List.set_cons_zero, List.set_cons_succ]
    refine wpAnyN_take (i := 7) (v := ?v22) rfl (by kernel_rfl) (by kernel_rfl) (by kernel_rfl) (by kernel_rfl) (fun _ _ _ h => h) (Or.inl ⟨by rfl, ?hy22⟩) (by assumption) ?_
    case hy22 => intro w hSw; (try dsimp only at hSw); go_simp; try with_reducible rfl
    simp only [Act.put, List.getElem_toArray, List.getElem_cons_zero, List.getElem_cons_succ, List.setIfInBounds_toArray, List.set_cons_zero, List.set_cons_succ]
    refine wpAnyN_take (i := 8) (v := ?v23) rfl (by kernel_rfl) (by kernel_rfl) (by kernel_rfl) (by kernel_rfl) (fun _ _ _ h => h) (Or.inl ⟨by rfl, ?hy23⟩) (by assumption) ?_
    case hy23 => intro w hSw; (try dsimp only at hSw); go_simp; try with_reducible rfl
    simp only [Act.put, List.getElem_toArray, List.getElem_cons_zero, List.getElem_cons_succ, List.setIfInBounds_toArray, List.set_cons_zero, List.set_cons_succ]
    refine wpAnyN_take (i := 9) (v := ?v24) rfl (by kernel_rfl) (by kernel_rfl) (by kernel_rfl) (by kernel_rfl) (fun _ _ _ h => h) (Or.inl ⟨by rfl, ?hy24⟩) (by assumption) ?_
    case hy24 => intro w hSw; (try dsimp only at hSw); go_simp; try with_reducible rfl
    simp only [Act.put, List.getElem_toArray, List.getElem_cons_zero, List.getElem_cons_succ, List.setIfInBounds_toArray, List.set_cons_zero, List.set_cons_succ]
    refine wpAnyN_take (i := 10) (v := ?v25) rfl (by kernel_rfl) (by kernel_rfl) (by kernel_rfl) (by kernel_rfl) (fun _ _ _ h => h) (Or.inl ⟨by rfl, ?hy25⟩) (by assumption) ?_
    case hy25 => intro w hSw; (try dsimp only at hSw); go_simp; try with_reducible rfl
    simp only [Act.put, List.getElem_toArray, List.getElem_cons_zero, List.getElem_cons_succ, List.setIfInBounds_toArray, List.set_cons_zero, List.set_cons_succ]
    refine wpAnyN_take (i := 11) (v := ?v26) rfl (by kernel_rfl) (by kernel_rfl) (by kernel_rfl) (by kernel_rfl) (fun _ _ _ h => h) (Or.inl ⟨by rfl, ?hy26⟩) (by assumption) ?_
    case hy26 => intro w hSw; (try dsimp only at hSw); go_simp; try with_reducible rfl
    simp only [Act.put, List.getElem_toArray, List.getElem_cons_zero, List.getElem_cons_succ, List.setIfInBounds_toArray, List.set_cons_zero, List.set_cons_succ]
    refine wpAnyN_take (i := 12) (v := ?v27) rfl (by kernel_rfl) (by kernel_rfl) (by kernel_rfl) (by kernel_rfl) (fun _ _ _ h => h) (Or.inl ⟨by rfl, ?hy27⟩) (by assumption) ?_
    case hy27 => intro w hSw; (try dsimp only at hSw); go_simp; try with_reducible rfl
    simp only [Act.put, List.getElem_toArray, List.getElem_cons_zero, List.getElem_cons_succ, List.setIfInBounds_toArray, List.set_cons_zero, List.set_cons_succ]
    refine wpAnyN_take (i := 13) (v := ?v28) rfl (by kernel_rfl) (by kernel_rfl) (by kernel_rfl) (by kernel_rfl) (fun _ _ _ h => h) (Or.inl ⟨by rfl, ?hy28⟩) (by assumption) ?_
    case hy28 => intro w hSw; (try dsimp only at hSw); go_simp; try with_reducible rfl
    simp only [Act.put, List.getElem_toArray, List.getElem_cons_zero, List.getElem_cons_succ, List.setIfInBounds_toArray, List.set_cons_zero, List.set_cons_succ]
    refine wpAnyN_one (i := 14) (by kernel_rfl) rfl (fun K hK => ?_)
    simp only [List.getElem_toArray, List.getElem_cons_zero, List.getElem_cons_succ]
    rw [if_pos (by rfl)]
    refine wp_append_own _ (.tmp 10) (.tmp 17) 23 rfl B 52 i1 _ 7 72 Try.underlying23 hi1 hz1 hy1 hb1 rfl (by decide) (.slice (some ⟨g, 0, none⟩) i (i + 1)) i ((gCs s.opn).take (i * 7)) rfl HT.out.drew ⟨g, 0, none⟩ (0) (0) (gCs (s.opn.drop (i + 1))) rfl ?c1 ?c2 (g_one _) ?c4 ?c5 ?c6 ?_
    case c1 => rw [gCs_len, List.length_drop]; omega
    case c2 => intro j u hj; exact absurd (List.getElem?_eq_some_iff.1 hj).1 (by rw [gCs_len, List.length_drop]; omega)
    case c4 => unfold maxLen; omega
    case c5 => omega
    case c6 => exact a4
    intro v2 w2 ho2 hg2 _
    rw [← gCs_erase] at ho2
    simp only [Nat.add_zero] at ho2
    have hm2 : (s.opn.eraseIdx i).length = i := by rw [List.length_eraseIdx, if_pos hi]; omega
    obtain ⟨D, e, rfl, -⟩ := own_form ho2
    have hgn : Value.ownBlock (.slice (some ⟨g, 0, none⟩) i (i + 1)) ≠ some nb := fun h => by simp [Value.ownBlock] at h; omega
    have k2 : Blk w2 nb 25 _ := Blk.grown (w := w.drew) HK.out hg2 hgn
    have hb2 : Below nb w w2 := (bDrewN (Below.refl nb w) 1).grown hg2 (by simp; omega) (fun k hk => by simp [Value.ownBlock] at hk; omega)
    have hz2 := hg2.size
    simp at hz2
    have hf2 : w2.ownsRow B 35 2 v0 s.files.length (fCs s.files) := own_stay HF.out fun g' hg' => hg2.block g' (HF.out.lt g' hg').2 (fun e => by simp [Value.ownBlock] at e; subst e; exact HE.out hg')
    have HEND := Lib.hid (close1_end k2 a1 (by omega) hf2 ho2 hm2 hb2)
    have y1 := k2.cell 1
    have y1f := k2.frozen 1
    have yz := k2.lt
    simp at y1
    have hS2 : (fun w' => w'.cell? ⟨nb, 1, none⟩ = some (.slice (some ⟨g, 0, none⟩) s.opn.length (i + 1)) ∧ w'.cell? ⟨p1, 0, none⟩ = some (.int .i64 (i : Int))) w2 := ⟨y1, (hb2.cell (p := ⟨p1, 0, none⟩) hp1).trans h1⟩
    refine hK _ _ (fun _ => hS2) ?_
    (try simp only [Act.put, List.setIfInBounds_toArray, List.set_cons_zero, List.set_cons_succ])
    refine wpAnyN_one (i := 15) (by kernel_rfl) rfl (fun K hK => ?_)
    simp only [List.getElem_toArray, List.getElem_cons_zero, List.getElem_cons_succ]
    go_simp
    refine hK _ _ (fun h => absurd h (by decide)) ?_
    refine wpAnyN_one (i := 16) (by kernel_rfl) rfl (fun K hK => ?_)
    simp only [List.getElem_toArray, List.getElem_cons_zero, List.getElem_cons_succ]
    go_simp
    refine hK _ _ (fun h => absurd h (by decide)) ?_
    refine wpAnyN_one (i := 17) (by kernel_rfl) rfl (fun K hK => ?_)
    simp only [List.getElem_toArray, List.getElem_cons_zero, List.getElem_cons_succ]
    go_simp
    refine hK _ _ (fun h => absurd h (by decide)) ?_
    refine wpAnyN_done (by kernel_rfl) ?_ _
    clear hS0 hS2 ho2 hg2 hm2 hgn k2 hb2 hz2 hf2 y1 y1f yz n1 h1
    obtain ⟨w3, HW3⟩ : ∃ w3, Hid (w3 = w2.setCell ⟨nb, 1, none⟩ (.slice D (i) e)) := ⟨_, rfl⟩
    rw [← HW3.out]
    rw [← HW3.out] at HEND
    obtain ⟨c2, c3, f2, f3, hz3⟩ := Nw.io HEND.out.1
    have q2 := (HEND.out.2.cell (p := ⟨p2, 0, none⟩) hp2).trans h2
    have zp2 : p2 < w3.heap.size := by omega
    clear h2 HW3
    simp only [] at c2 c3
    cases hin : s.inp == id
    · cases hou : s.out == id
      · have HC := Lib.hid (show closeS s i id = { s with opn := s.opn.eraseIdx i } by unfold closeS; rw [hin, hou]; rfl)
        go_wp2_with fail
        go_quiet (fail)
        go_wp2_with fail
        go_quiet (fail)
        go_wp2_with fail
        go_end0
        rw [HC.out]
        exact ⟨rfl, HEND.out.1, bDrewN (bDrewN HEND.out.2 _) _⟩
      · have HC := Lib.hid (show closeS s i id = { s with opn := s.opn.eraseIdx i, out := 1 } by unfold closeS; rw [hin, hou]; rfl)
        go_wp2_with fail
        go_quiet (fail)
        go_wp2_with fail
        go_quiet (fail)
        go_wp2_with fail
        go_end0
        rw [HC.out]
        exact ⟨rfl, HEND.out.1.setOut 1, (bDrewN HEND.out.2 _).setCell (Nat.le_refl _) _⟩
    · cases hou : s.out == id
      · have HC := Lib.hid (show closeS s i id = { s with opn := s.opn.eraseIdx i, inp := 0 } by unfold closeS; rw [hin, hou]; rfl)
        go_wp2_with fail
        go_quiet (fail)
        go_wp2_with fail
        go_quiet (fail)
        go_wp2_with fail
        go_end0
        rw [HC.out]
        exact ⟨rfl, HEND.out.1.setIn 0, bDrewN ((bDrewN HEND.out.2 _).setCell (Nat.le_refl _) _) _⟩
      · have HC := Lib.hid (show closeS s i id = { s with opn := s.opn.eraseIdx i, inp := 0, out := 1 } by unfold closeS; rw [hin, hou]; rfl)
        go_wp2_with fail
        go_quiet (fail)
        go_wp2_with fail
        go_quiet (fail)
        go_wp2_with fail
        go_end0
        rw [HC.out]
        exact ⟨rfl, (HEND.out.1.setIn 0).setOut 1, (bDrewN ((bDrewN HEND.out.2 _).setCell (Nat.le_refl _) _) _).setCell (Nat.le_refl _) _⟩
end Go.Proofs.Ytklpghpfdeojeaa
