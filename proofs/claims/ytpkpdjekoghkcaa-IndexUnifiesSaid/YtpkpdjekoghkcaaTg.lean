/-
  Arguments opened: a term.
-/
import Derived.Test.YtpkpdjekoghkcaaTa
import Derived.Test.YtpkpdjekoghkcaaOq
namespace Go.Proofs.Ytpkpdjekoghkcaa
open Go.ChangeShapes Go.WideShapes Go.Deep Go.RowKit

section
variable {H : Type} {enc : TypeId × Value → H} {w : World} {base : Nat} {held : Bool}
theorem args_open (n : Nat) : ∀ {cs : List Value} {x : DataW H × List MemPlace}, DataW.trod enc Try.prog w base (fun _ => true) held n 45 cs = some x →
    (∀ m ∈ x.1.weights Try.prog 45, m ≤ reachBytes) → ∃ (A : Option Addr) (c : Nat) (l : List Tm), cs = [.slice A l.length c] ∧ ArgsAt w (Old w.heap.size) A l := by
  induction n using Nat.strongRecOn with
  | _ n ih =>
    intro cs x h hsz
    have hC : Try.prog.cellsOf 47 = 4 := by kernel_rfl
    have hB : Try.prog.bytesOf 47 = 56 := by kernel_rfl
    rcases DataW.trod_slice Try.underlying45 h with ⟨rfl, rfl⟩ | ⟨a, len, m, elems, rest, n1, hfu, rfl, rfl, hb, hl, hm, hlen, hel, hsp, -⟩
    · exact ⟨none, 0, [], rfl, .nil _⟩
    · have hrl := (hsp rfl).1
      have hi : ∀ i (him : i < len), ∃ cs', w.cells? base (a.add (i * Try.prog.cellsOf 47)) (Try.prog.cellsOf 47) = some cs' ∧ DataW.trod enc Try.prog w base (fun _ => true) held n1 47 cs' = some (elems[i]'(by omega)) := fun i him => by
        have h1 := hel i him
        rw [List.getElem?_eq_getElem (by omega)] at h1
        cases hcs : w.cells? base (a.add (i * Try.prog.cellsOf 47)) (Try.prog.cellsOf 47) with
        | none => rw [hcs] at h1; cases h1
        | some cs' => rw [hcs] at h1; exact ⟨cs', rfl, h1⟩
      have hw := hsz _ (by simp only [DataW.weights, Try.underlying45]; exact List.mem_cons_self)
      simp only [List.length_map, hB, reachBytes] at hw
      rcases Nat.eq_zero_or_pos len with rfl | hpos
      · exact ⟨some a, m, [], rfl, .nil _⟩
      obtain ⟨cs', hc, ht'⟩ := hi 0 (by omega)
      rw [hC] at hc
      obtain ⟨hs, hlt⟩ := plain_of_first (by omega) hc
      clear hc ht'
      obtain ⟨ab, ao, asp⟩ := a
      simp only at hs hlt
      subst hs
      obtain ⟨l, hk, hp⟩ := list_of (P := fun i (r : Tm × Option Addr × Nat) => TmCells w ab (ao + i * 4) r.1 r.2.1 r.2.2 ∧ ArgsAt w (Old w.heap.size) r.2.1 r.1.args) len fun i him => by
        obtain ⟨cs', hc, ht'⟩ := hi i (by omega)
        rw [hC] at hc
        obtain ⟨_, hcl, hat⟩ := World.cells?_some hc
        obtain ⟨ys, n', hn', hy, hl', hyl, hf⟩ := DataW.trod_struct Try.underlying47 ht'
        match cs', hcl with
        | [c0, c1, c2, c3], _ =>
          have hC3 : Try.prog.cellsOf 3 = 1 := by kernel_rfl
          have hC2 : Try.prog.cellsOf 2 = 1 := by kernel_rfl
          have hC9 : Try.prog.cellsOf 9 = 1 := by kernel_rfl
          have hC45 : Try.prog.cellsOf 45 = 1 := by kernel_rfl
          have f0 := hf 0 _ rfl
          have f1 := hf 1 _ rfl
          have f2 := hf 2 _ rfl
          have f3 := hf 3 _ rfl
          match ys, hyl with
          | [y0, y1, y2, y3], _ =>
            obtain ⟨k, e0, -, -⟩ := DataW.trod_int Try.underlying3 (x := y0) (by simpa [hC3] using f0)
            obtain ⟨m', e1, -, -⟩ := DataW.trod_int Try.underlying2 (x := y1) (by simpa [hC2] using f1)
            obtain ⟨s, e2, -, -⟩ := DataW.trod_string Try.underlying9 (x := y2) (by simpa [hC9] using f2)
            obtain ⟨A, c, l, e3, hl3⟩ := ih n' (by omega) (x := y3) (cs := [c3]) (by simpa [hC45] using f3) (fun q hq => hsz q (by
              simp only [DataW.weights, Try.underlying45]
              refine List.mem_cons_of_mem _ (List.mem_append_left _ (weightsAll_mem (List.mem_map.2 ⟨_, List.getElem_mem (by omega : i < elems.length), rfl⟩) q ?_))
              rw [hy]
              simp only [DataW.weights, Try.underlying47]
              exact DataW.weights_mem_each (j := 3) rfl rfl q hq))
            simp only [List.cons.injEq, and_true] at e0 e1 e2 e3
            subst e0 e1 e2 e3
            have h0 := hat 0 (by omega)
            have h1 := hat 1 (by omega)
            have h2 := hat 2 (by omega)
            have h3 := hat 3 (by omega)
            simp only [add_plain] at h0 h1 h2 h3
            exact ⟨(.mk k m' s l, A, c), ⟨by simpa [Tm.kind] using h0, by simpa [Tm.n] using h1, by simpa [Tm.name] using h2, by simpa [Tm.args] using h3⟩, hl3⟩
      subst hk
      refine ⟨some ⟨ab, ao, none⟩, m, l.map (·.1), by simp, ?_⟩
      refine .row ab ao _ (fun i => ((l[i]?).map (·.2.1)).getD none) (fun i => ((l[i]?).map (·.2.2)).getD 0) hlt (by simp; omega) ?_ ?_
      · intro i x hx
        rw [List.getElem?_map] at hx
        cases hr : l[i]? with
        | none => rw [hr] at hx; cases hx
        | some r =>
          rw [hr] at hx
          simp at hx
          subst hx
          exact (hp i r hr).1
      · intro i x hx
        rw [List.getElem?_map] at hx
        cases hr : l[i]? with
        | none => rw [hr] at hx; cases hx
        | some r =>
          rw [hr] at hx
          simp at hx
          subst hx
          exact (hp i r hr).2
theorem term_val {v : Value} {b0 : Nat} {r : Reach} {d : DataW H} {ps : List MemPlace} (hv : Value.okWide Try.prog w r b0 47 v) (h : DataW.Trod enc Try.prog w base (fun _ => true) held 47 v d ps)
    (hsz : ∀ n ∈ d.weights Try.prog 47, n ≤ reachBytes) : ∃ (t : Tm) (A : Option Addr) (c : Nat), v = t.v A c ∧ ArgsAt w (Old w.heap.size) A t.args := by
  obtain ⟨cs, rfl, hcs⟩ := okWide_struct Try.underlying47 hv
  have hC : Try.prog.cellsOf 47 = 4 := by kernel_rfl
  rw [hC] at hcs
  obtain ⟨fuel, hf⟩ := h
  obtain ⟨ys, n', hn', hx, hl, hyl, hfs⟩ := DataW.trod_struct Try.underlying47 hf
  simp only [Prod.mk.injEq] at hx
  obtain ⟨rfl, -⟩ := hx
  obtain ⟨cl⟩ := cs
  have hC3 : Try.prog.cellsOf 3 = 1 := by kernel_rfl
  have hC2 : Try.prog.cellsOf 2 = 1 := by kernel_rfl
  have hC9 : Try.prog.cellsOf 9 = 1 := by kernel_rfl
  have hC45 : Try.prog.cellsOf 45 = 1 := by kernel_rfl
  have f0 := hfs 0 _ rfl
  have f1 := hfs 1 _ rfl
  have f2 := hfs 2 _ rfl
  have f3 := hfs 3 _ rfl
  match cl, hcs with
  | [c0, c1, c2, c3], _ =>
    match ys, hyl with
    | [y0, y1, y2, y3], _ =>
      obtain ⟨k, e0, -, -⟩ := DataW.trod_int Try.underlying3 (x := y0) (cs := [c0]) (by simpa [hC3, Value.cells] using f0)
      obtain ⟨m', e1, -, -⟩ := DataW.trod_int Try.underlying2 (x := y1) (cs := [c1]) (by simpa [hC2, Value.cells] using f1)
      obtain ⟨s, e2, -, -⟩ := DataW.trod_string Try.underlying9 (x := y2) (cs := [c2]) (by simpa [hC9, Value.cells] using f2)
      obtain ⟨A, c, l, e3, hl3⟩ := args_open n' (x := y3) (cs := [c3]) (by simpa [hC45, Value.cells] using f3) (fun q hq => hsz q (by
        simp only [DataW.weights, Try.underlying47]
        exact DataW.weights_mem_each (j := 3) rfl rfl q hq))
      simp only [List.cons.injEq, and_true] at e0 e1 e2 e3
      subst e0 e1 e2 e3
      exact ⟨.mk k m' s l, A, c, rfl, hl3⟩
theorem byte_val {v : Value} {b0 : Nat} {r : Reach} {sp : Nat → Bool} {d : DataW H} {ps : List MemPlace} (hv : Value.okWide Try.prog w r b0 5 v) (h : DataW.Trod enc Try.prog w base sp held 5 v d ps) :
    ∃ n : Int, v = .int .u8 n ∧ 0 ≤ n ∧ n < 256 := by
  obtain ⟨n, rfl⟩ := okWide_int Try.underlying5 hv
  obtain ⟨fuel, hf⟩ := h
  obtain ⟨m, e, -, hw⟩ := DataW.trod_int Try.underlying5 hf
  simp only [Value.cells, List.cons.injEq, and_true] at e
  injection e with _ e
  subst e
  simp only [Lit.wf, IntKind.min, IntKind.max, IntKind.signed, IntKind.bits, Bool.and_eq_true] at hw
  exact ⟨n, rfl, by simpa using hw.1, by have := hw.2; simp at this; omega⟩
end
end Go.Proofs.Ytpkpdjekoghkcaa
