/-
  Arguments opened: files; what a call leaves.
-/
import Derived.Test.YtklpghpfdeojeaaSa
import Derived.Test.YtklpghpfdeojeaaSi
import Derived.Test.YtklpghpfdeojeaaRows
import Derived.Deep.Slices
import Derived.Deep.Fields
import Derived.ChangeSame
import Derived.SizedLaws
import Derived.Carry
namespace Go.Proofs.Ytklpghpfdeojeaa
open Go.ChangeShapes Go.WideShapes Go.Deep Go.RowKit

theorem list_of {α : Type} {P : Nat → α → Prop} : ∀ n, (∀ i, i < n → ∃ x, P i x) → ∃ l : List α, l.length = n ∧ ∀ i x, l[i]? = some x → P i x
  | 0, _ => ⟨[], rfl, fun i x h => by simp at h⟩
  | n + 1, h => by
    obtain ⟨l, hl, hp⟩ := list_of n fun i hi => h i (by omega)
    obtain ⟨x, hx⟩ := h n (by omega)
    refine ⟨l ++ [x], by simp [hl], fun i y hy => ?_⟩
    rw [List.getElem?_append] at hy
    split at hy
    · exact hp i y hy
    · rename_i hlt
      have : i = n := by
        have := (List.getElem?_eq_some_iff.1 hy).1
        simp at this; omega
      subst this
      simp [hl] at hy
      exact hy ▸ hx
theorem addr_plain {w : World} {a : Addr} {v : Value} (h : w.cell? a = some v) : a.spot = none ∧ a.block < w.heap.size := by
  unfold World.cell? at h
  cases hb : w.heap[a.block]? with
  | none => rw [hb] at h; cases h
  | some o =>
    refine ⟨?_, (Array.getElem?_eq_some_iff.1 hb).1⟩
    rw [hb] at h
    cases o with
    | cells c _ _ =>
      simp only at h
      split at h
      · cases h
      · rename_i hs; simpa using hs
    | _ => cases h
section
variable {H : Type} {enc : TypeId × Value → H} {P : Program} {w : World} {base : Nat} {spare : Nat → Bool} {held : Bool}
theorem file_open {cs : List Value} {n : Nat} {x : DataW H × List MemPlace} (hlen : cs.length = 2) (h : DataW.trod enc Try.prog w base spare held n 35 cs = some x) :
    ∃ k : F, cs = [.string k.name, .string k.text] := by
  obtain ⟨ys, n', hn', hy, hl, hyl, hf⟩ := DataW.trod_struct Try.underlying35 h
  match cs, hlen with
  | [c0, c1], _ =>
    have hC9 : Try.prog.cellsOf 9 = 1 := by kernel_rfl
    have f0 := hf 0 _ rfl
    have f1 := hf 1 _ rfl
    match ys, hyl with
    | [y0, y1], _ =>
      obtain ⟨s, e0, -, -⟩ := DataW.trod_string Try.underlying9 (x := y0) (by simpa [hC9] using f0)
      obtain ⟨r, e1, -, -⟩ := DataW.trod_string Try.underlying9 (x := y1) (by simpa [hC9] using f1)
      simp only [List.cons.injEq, and_true] at e0 e1
      subst e0 e1
      exact ⟨⟨s, r⟩, rfl⟩
theorem files_open {a0 : Option Addr} {len cap : Nat} {d : DataW H} {ps : List MemPlace} (h : DataW.Trod enc Try.prog w base (fun _ => true) held 22 (.slice a0 len cap) d ps)
    (hsz : ∀ n ∈ d.weights Try.prog 22, n ≤ reachBytes) : ∃ ks : List F, FilesAt w w.heap.size a0 len ks ∧ len ≤ 4398046510976 := by
  obtain ⟨fuel, hf⟩ := h
  have hC : Try.prog.cellsOf 35 = 2 := by kernel_rfl
  have hB : Try.prog.bytesOf 35 = 32 := by kernel_rfl
  rcases open_slice Try.underlying22 hf with ⟨hcs, hx⟩ | ⟨a, len', cap', m, n, D, Pl, hcs, hb, hl, hm, hmm, hx, hi⟩
  · simp [Value.cells] at hcs
    obtain ⟨rfl, rfl, rfl⟩ := hcs
    exact ⟨[], ⟨⟨rfl, by omega⟩, fun h => absurd h (by omega)⟩, by omega⟩
  · simp [Value.cells] at hcs
    obtain ⟨rfl, rfl, rfl⟩ := hcs
    simp only [if_true] at hmm
    subst hmm
    simp only [Prod.mk.injEq] at hx
    obtain ⟨rfl, -⟩ := hx
    have hw := hsz _ (by simp only [DataW.weights, Try.underlying22]; exact List.mem_cons_self)
    simp only [List.length_map, List.length_range, hB, reachBytes] at hw
    rcases Nat.eq_zero_or_pos len with rfl | hpos
    · exact ⟨[], ⟨⟨rfl, by omega⟩, fun h => absurd h (by omega)⟩, by omega⟩
    obtain ⟨cs', hc, ht'⟩ := hi 0 (by omega)
    rw [hC] at hc
    obtain ⟨_, hcl, hat⟩ := World.cells?_some hc
    have h0 := hat 0 (by omega)
    have e : (a.add (0 * 2)).add 0 = a := by simp [Addr.add]
    rw [e, List.getElem?_eq_getElem (by omega)] at h0
    obtain ⟨hs, hlt⟩ := addr_plain h0
    clear hc ht' hat hcl h0 e
    obtain ⟨ab, ao, asp⟩ := a
    simp only at hs hlt
    subst hs
    obtain ⟨ks, hk, hp⟩ := list_of (P := fun i (k : F) => FCells w ab (ao + i * 2) k) len fun i him => by
      obtain ⟨cs', hc, ht'⟩ := hi i (by omega)
      rw [hC] at hc
      obtain ⟨_, hcl, hat⟩ := World.cells?_some hc
      obtain ⟨k, rfl⟩ := file_open hcl ht'
      have h0 := hat 0 (by omega)
      have h1 := hat 1 (by omega)
      simp only [add_plain] at h0 h1
      exact ⟨k, by simpa using h0, by simpa using h1⟩
    exact ⟨ks, ⟨⟨hk, by omega⟩, fun _ => ⟨ab, ao, rfl, hlt, hp⟩⟩, by omega⟩
end
theorem slice_cap {H : Type} {enc : TypeId × Value → H} {P : Program} {w : World} {base : Nat} {sp : Nat → Bool} {held : Bool} {t e : TypeId} {a0 : Option Addr} {len cap : Nat} {d : DataW H} {ps : List MemPlace} (ht : P.underlying t = some (.slice e))
    (h : DataW.Trod enc P w base sp held t (.slice a0 len cap) d ps) : len ≤ cap := by
  obtain ⟨fuel, hf⟩ := h
  rcases Deep.open_slice ht hf with ⟨hcs, -⟩ | ⟨a, len', cap', m, n, D, Pl, hcs, -, hl, -⟩ <;> simp [Value.cells] at hcs <;> omega
theorem slice_none {H : Type} {enc : TypeId × Value → H} {P : Program} {w : World} {base : Nat} {sp : Nat → Bool} {held : Bool} {t e : TypeId} {a0 : Option Addr} {len cap : Nat} {d : DataW H} {ps : List MemPlace} (ht : P.underlying t = some (.slice e))
    (h : DataW.Trod enc P w base sp held t (.slice a0 len cap) d ps) : a0 = none → cap = 0 := by
  obtain ⟨fuel, hf⟩ := h
  rcases Deep.open_slice ht hf with ⟨hcs, -⟩ | ⟨a, len', cap', m, n, D, Pl, hcs, -, hl, -⟩ <;> simp [Value.cells] at hcs <;> simp [hcs]

theorem trodAll_below {H : Type} {enc : TypeId × Value → H} {P : Program} (hl : laidOutB P = true) {W W' : World} (hb : Below W.heap.size W W') :
    ∀ {ts : List TypeId} {vs : List Value} {ds : List (DataW H)} {ps : List MemPlace}, (ts.all fun t => P.readableRec t && decide (t < P.types.size)) = true → (∀ x ∈ ps, x.block < W.heap.size) →
      DataW.TrodAll enc P W 0 (fun _ => true) true ts vs ds ps → DataW.TrodAll enc P W' 0 (fun b => decide (b < W.heap.size)) true ts vs ds ps
  | [], [], [], _, _, _, h => h
  | t :: ts, _ :: _, _ :: _, _, hts, hlt, ⟨p, q, h1, h2, e⟩ => by
    simp only [List.all_cons, Bool.and_eq_true, decide_eq_true_eq] at hts
    exact ⟨p, q, Below.trod hl hts.1.1 hts.1.2 h1 hb (fun x hx => hlt x (by rw [e]; exact List.mem_append_left _ hx)),
      trodAll_below hl hb hts.2 (fun x hx => hlt x (by rw [e]; exact List.mem_append_right _ hx)) h2, e⟩
end Go.Proofs.Ytklpghpfdeojeaa
