/-
  Arguments opened: instructions, integers; what a call leaves.
-/
import Derived.Test.YteffpeokialeiaaAa
import Derived.Test.YteffpeokialeiaaRows
import Derived.Deep.Slices
import Derived.Deep.Fields
import Derived.ChangeSame
import Derived.SizedLaws
import Derived.Carry
namespace Go.Proofs.Yteffpeokialeiaa
open Go.ChangeShapes Go.WideShapes Go.Deep Go.RowKit

theorem list_of {α : Type} {P : Nat → α → Prop} : ∀ n, (∀ i, i < n → ∃ x, P i x) → ∃ l : List α, l.length = n ∧ ∀ i x, l[i]? = some x → P i x
  | 0, _ => ⟨[], rfl, fun i x h => by simp at h⟩
  | n + 1, h => by
    obtain ⟨l, hl, hp⟩ := list_of n fun i hi => h i (by omega)
    obtain ⟨x, hx⟩ := h n (by omega)
    refine ⟨l ++ [x], by simp [hl], fun i y hy => ?_⟩
    rw [List.getElem?_append] at hy
    split at hy
    · exact hp i y hy
    · rename_i hlt
      have : i = n := by
        have := (List.getElem?_eq_some_iff.1 hy).1
        simp at this; omega
      subst this
      simp [hl] at hy
      exact hy ▸ hx
theorem addr_plain {w : World} {a : Addr} {v : Value} (h : w.cell? a = some v) : a.spot = none ∧ a.block < w.heap.size := by
  unfold World.cell? at h
  cases hb : w.heap[a.block]? with
  | none => rw [hb] at h; cases h
  | some o =>
    refine ⟨?_, (Array.getElem?_eq_some_iff.1 hb).1⟩
    rw [hb] at h
    cases o with
    | cells c _ _ =>
      simp only at h
      split at h
      · cases h
      · rename_i hs; simpa using hs
    | _ => cases h
section
variable {H : Type} {enc : TypeId × Value → H} {P : Program} {w : World} {base : Nat} {spare : Nat → Bool} {held : Bool}
theorem instr_open {cs : List Value} {n : Nat} {x : DataW H × List MemPlace} (hlen : cs.length = 6) (h : DataW.trod enc Try.prog w base spare held n 23 cs = some x) :
    ∃ k : In, cs = [.int .i64 k.op, .int .i64 k.r, .int .i64 k.a, .int .i64 k.n, .string k.nm, .int .i64 k.ar] := by
  obtain ⟨ys, n', hn', hy, hl, hyl, hf⟩ := DataW.trod_struct Try.underlying23 h
  match cs, hlen with
  | [c0, c1, c2, c3, c4, c5], _ =>
    have hC9 : Try.prog.cellsOf 9 = 1 := by kernel_rfl
    have hC3 : Try.prog.cellsOf 3 = 1 := by kernel_rfl
    have hC2 : Try.prog.cellsOf 2 = 1 := by kernel_rfl
    have f0 := hf 0 _ rfl
    have f1 := hf 1 _ rfl
    have f2 := hf 2 _ rfl
    have f3 := hf 3 _ rfl
    have f4 := hf 4 _ rfl
    have f5 := hf 5 _ rfl
    match ys, hyl with
    | [y0, y1, y2, y3, y4, y5], _ =>
      obtain ⟨m0, e0, -, -⟩ := DataW.trod_int Try.underlying3 (x := y0) (by simpa [hC3] using f0)
      obtain ⟨m1, e1, -, -⟩ := DataW.trod_int Try.underlying3 (x := y1) (by simpa [hC3] using f1)
      obtain ⟨m2, e2, -, -⟩ := DataW.trod_int Try.underlying3 (x := y2) (by simpa [hC3] using f2)
      obtain ⟨m3, e3, -, -⟩ := DataW.trod_int Try.underlying2 (x := y3) (by simpa [hC2] using f3)
      obtain ⟨s4, e4, -, -⟩ := DataW.trod_string Try.underlying9 (x := y4) (by simpa [hC9] using f4)
      obtain ⟨m5, e5, -, -⟩ := DataW.trod_int Try.underlying3 (x := y5) (by simpa [hC3] using f5)
      simp only [List.cons.injEq, and_true] at e0 e1 e2 e3 e4 e5
      subst e0 e1 e2 e3 e4 e5
      exact ⟨⟨m0, m1, m2, m3, s4, m5⟩, rfl⟩
theorem instrs_open {a0 : Option Addr} {len cap : Nat} {d : DataW H} {ps : List MemPlace} (h : DataW.Trod enc Try.prog w base (fun _ => true) held 27 (.slice a0 len cap) d ps)
    (hsz : ∀ n ∈ d.weights Try.prog 27, n ≤ reachBytes) : ∃ ks : List In, InsAt w w.heap.size a0 len ks := by
  obtain ⟨fuel, hf⟩ := h
  have hC : Try.prog.cellsOf 23 = 6 := by kernel_rfl
  have hB : Try.prog.bytesOf 23 = 56 := by kernel_rfl
  rcases open_slice Try.underlying27 hf with ⟨hcs, hx⟩ | ⟨a, len', cap', m, n, D, Pl, hcs, hb, hl, hm, hmm, hx, hi⟩
  · simp [Value.cells] at hcs
    obtain ⟨rfl, rfl, rfl⟩ := hcs
    exact ⟨[], ⟨⟨rfl, by omega⟩, fun h => absurd h (by omega)⟩⟩
  · simp [Value.cells] at hcs
    obtain ⟨rfl, rfl, rfl⟩ := hcs
    simp only [if_true] at hmm
    subst hmm
    simp only [Prod.mk.injEq] at hx
    obtain ⟨rfl, -⟩ := hx
    have hw := hsz _ (by simp only [DataW.weights, Try.underlying27]; exact List.mem_cons_self)
    simp only [List.length_map, List.length_range, hB, reachBytes] at hw
    rcases Nat.eq_zero_or_pos len with rfl | hpos
    · exact ⟨[], ⟨⟨rfl, by omega⟩, fun h => absurd h (by omega)⟩⟩
    obtain ⟨cs', hc, ht'⟩ := hi 0 (by omega)
    rw [hC] at hc
    obtain ⟨_, hcl, hat⟩ := World.cells?_some hc
    have h0 := hat 0 (by omega)
    have e : (a.add (0 * 6)).add 0 = a := by simp [Addr.add]
    rw [e, List.getElem?_eq_getElem (by omega)] at h0
    obtain ⟨hs, hlt⟩ := addr_plain h0
    clear hc ht' hat hcl h0 e
    obtain ⟨ab, ao, asp⟩ := a
    simp only at hs hlt
    subst hs
    obtain ⟨ks, hk, hp⟩ := list_of (P := fun i (k : In) => ICells w ab (ao + i * 6) k) len fun i him => by
      obtain ⟨cs', hc, ht'⟩ := hi i (by omega)
      rw [hC] at hc
      obtain ⟨_, hcl, hat⟩ := World.cells?_some hc
      obtain ⟨k, rfl⟩ := instr_open hcl ht'
      have h0 := hat 0 (by omega)
      have h1 := hat 1 (by omega)
      have h2 := hat 2 (by omega)
      have h3 := hat 3 (by omega)
      have h4 := hat 4 (by omega)
      have h5 := hat 5 (by omega)
      simp only [add_plain] at h0 h1 h2 h3 h4 h5
      exact ⟨k, by simpa using h0, by simpa using h1, by simpa using h2, by simpa using h3, by simpa using h4, by simpa using h5⟩
    exact ⟨ks, ⟨⟨hk, by omega⟩, fun _ => ⟨ab, ao, rfl, hlt, hp⟩⟩⟩
end
section
variable {H : Type} {enc : TypeId × Value → H} {w : World} {base : Nat} {held : Bool}
theorem int_val {v : Value} {b0 : Nat} {r : Reach} {sp : Nat → Bool} {d : DataW H} {ps : List MemPlace} (hv : Value.okWide Try.prog w r b0 3 v) (h : DataW.Trod enc Try.prog w base sp held 3 v d ps) :
    ∃ n : Int, v = .int .i64 n ∧ -9223372036854775808 ≤ n ∧ n ≤ 9223372036854775807 := by
  obtain ⟨n, rfl⟩ := okWide_int Try.underlying3 hv
  obtain ⟨fuel, hf⟩ := h
  obtain ⟨m, e, -, hw⟩ := DataW.trod_int Try.underlying3 hf
  simp only [Value.cells, List.cons.injEq, and_true] at e
  injection e with _ e
  subst e
  simp only [Lit.wf, IntKind.min, IntKind.max, IntKind.signed, IntKind.bits, Bool.and_eq_true] at hw
  exact ⟨n, rfl, by have := hw.1; simp at this; omega, by have := hw.2; simp at this; omega⟩
end
theorem slice_cap {H : Type} {enc : TypeId × Value → H} {P : Program} {w : World} {base : Nat} {sp : Nat → Bool} {held : Bool} {t e : TypeId} {a0 : Option Addr} {len cap : Nat} {d : DataW H} {ps : List MemPlace} (ht : P.underlying t = some (.slice e))
    (h : DataW.Trod enc P w base sp held t (.slice a0 len cap) d ps) : len ≤ cap := by
  obtain ⟨fuel, hf⟩ := h
  rcases Deep.open_slice ht hf with ⟨hcs, -⟩ | ⟨a, len', cap', m, n, D, Pl, hcs, -, hl, -⟩ <;> simp [Value.cells] at hcs <;> omega
theorem slice_none {H : Type} {enc : TypeId × Value → H} {P : Program} {w : World} {base : Nat} {sp : Nat → Bool} {held : Bool} {t e : TypeId} {a0 : Option Addr} {len cap : Nat} {d : DataW H} {ps : List MemPlace} (ht : P.underlying t = some (.slice e))
    (h : DataW.Trod enc P w base sp held t (.slice a0 len cap) d ps) : a0 = none → cap = 0 := by
  obtain ⟨fuel, hf⟩ := h
  rcases Deep.open_slice ht hf with ⟨hcs, -⟩ | ⟨a, len', cap', m, n, D, Pl, hcs, -, hl, -⟩ <;> simp [Value.cells] at hcs <;> simp [hcs]

theorem trodAll_below {H : Type} {enc : TypeId × Value → H} {P : Program} (hl : laidOutB P = true) {W W' : World} (hb : Below W.heap.size W W') :
    ∀ {ts : List TypeId} {vs : List Value} {ds : List (DataW H)} {ps : List MemPlace}, (ts.all fun t => P.readableRec t && decide (t < P.types.size)) = true → (∀ x ∈ ps, x.block < W.heap.size) →
      DataW.TrodAll enc P W 0 (fun _ => true) true ts vs ds ps → DataW.TrodAll enc P W' 0 (fun b => decide (b < W.heap.size)) true ts vs ds ps
  | [], [], [], _, _, _, h => h
  | t :: ts, _ :: _, _ :: _, _, hts, hlt, ⟨p, q, h1, h2, e⟩ => by
    simp only [List.all_cons, Bool.and_eq_true, decide_eq_true_eq] at hts
    exact ⟨p, q, Below.trod hl hts.1.1 hts.1.2 h1 hb (fun x hx => hlt x (by rw [e]; exact List.mem_append_left _ hx)),
      trodAll_below hl hb hts.2 (fun x hx => hlt x (by rw [e]; exact List.mem_append_right _ hx)) h2, e⟩
end Go.Proofs.Yteffpeokialeiaa
