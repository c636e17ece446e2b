/-
  Arguments opened: a slice of keys.
-/
import Derived.Test.YtpkpdjekoghkcaaMem
import Derived.Test.YtpkpdjekoghkcaaRows
import Derived.Deep.Slices
import Derived.Deep.Fields
import Derived.ChangeSame
import Derived.SizedLaws
import Derived.Carry
namespace Go.Proofs.Ytpkpdjekoghkcaa
open Go.ChangeShapes Go.WideShapes Go.Deep Go.RowKit

theorem list_of {α : Type} {P : Nat → α → Prop} : ∀ n, (∀ i, i < n → ∃ x, P i x) → ∃ l : List α, l.length = n ∧ ∀ i x, l[i]? = some x → P i x
  | 0, _ => ⟨[], rfl, fun i x h => by simp at h⟩
  | n + 1, h => by
    obtain ⟨l, hl, hp⟩ := list_of n fun i hi => h i (by omega)
    obtain ⟨x, hx⟩ := h n (by omega)
    refine ⟨l ++ [x], by simp [hl], fun i y hy => ?_⟩
    rw [List.getElem?_append] at hy
    split at hy
    · exact hp i y hy
    · rename_i hlt
      have : i = n := by
        have := (List.getElem?_eq_some_iff.1 hy).1
        simp at this; omega
      subst this
      simp [hl] at hy
      exact hy ▸ hx
theorem addr_plain {w : World} {a : Addr} {v : Value} (h : w.cell? a = some v) : a.spot = none ∧ a.block < w.heap.size := by
  unfold World.cell? at h
  cases hb : w.heap[a.block]? with
  | none => rw [hb] at h; cases h
  | some o =>
    refine ⟨?_, (Array.getElem?_eq_some_iff.1 hb).1⟩
    rw [hb] at h
    cases o with
    | cells c _ _ =>
      simp only at h
      split at h
      · cases h
      · rename_i hs; simpa using hs
    | _ => cases h
theorem add_plain (b off i : Nat) : (Addr.mk b off none).add i = ⟨b, off + i, none⟩ := by
  unfold Addr.add
  by_cases hi : i = 0 <;> simp [hi]

section
variable {H : Type} {enc : TypeId × Value → H} {P : Program} {w : World} {base : Nat} {spare : Nat → Bool} {held : Bool}
theorem key_open {cs : List Value} {n : Nat} {x : DataW H × List MemPlace} (hlen : cs.length = 4) (h : DataW.trod enc Try.prog w base spare held n 35 cs = some x) :
    ∃ k : K, cs = [.int .i64 k.kind, .int .i64 k.n, .string k.name, .int .i64 k.ar] := by
  obtain ⟨ys, n', hn', hy, hl, hyl, hf⟩ := DataW.trod_struct Try.underlying35 h
  match cs, hlen with
  | [c0, c1, c2, c3], _ =>
    have hC3 : Try.prog.cellsOf 3 = 1 := by kernel_rfl
    have hC2 : Try.prog.cellsOf 2 = 1 := by kernel_rfl
    have hC9 : Try.prog.cellsOf 9 = 1 := by kernel_rfl
    have f0 := hf 0 _ rfl
    have f1 := hf 1 _ rfl
    have f2 := hf 2 _ rfl
    have f3 := hf 3 _ rfl
    match ys, hyl with
    | [y0, y1, y2, y3], _ =>
      obtain ⟨k, e0, -, -⟩ := DataW.trod_int Try.underlying3 (x := y0) (by simpa [hC3] using f0)
      obtain ⟨m, e1, -, -⟩ := DataW.trod_int Try.underlying2 (x := y1) (by simpa [hC2] using f1)
      obtain ⟨s, e2, -, -⟩ := DataW.trod_string Try.underlying9 (x := y2) (by simpa [hC9] using f2)
      obtain ⟨r, e3, -, -⟩ := DataW.trod_int Try.underlying3 (x := y3) (by simpa [hC3] using f3)
      simp only [List.cons.injEq, and_true] at e0 e1 e2 e3
      subst e0 e1 e2 e3
      exact ⟨⟨k, m, s, r⟩, rfl⟩
theorem keys_open {a0 : Option Addr} {len cap : Nat} {d : DataW H} {ps : List MemPlace} (h : DataW.Trod enc Try.prog w base (fun _ => true) held 22 (.slice a0 len cap) d ps)
    (hsz : ∀ n ∈ d.weights Try.prog 22, n ≤ reachBytes) : ∃ ks : List K, KeysAt w w.heap.size a0 len ks := by
  obtain ⟨fuel, hf⟩ := h
  have hC : Try.prog.cellsOf 35 = 4 := by kernel_rfl
  have hB : Try.prog.bytesOf 35 = 40 := by kernel_rfl
  rcases open_slice Try.underlying22 hf with ⟨hcs, hx⟩ | ⟨a, len', cap', m, n, D, Pl, hcs, hb, hl, hm, hmm, hx, hi⟩
  · simp [Value.cells] at hcs
    obtain ⟨rfl, rfl, rfl⟩ := hcs
    exact ⟨[], ⟨rfl, by omega⟩, fun h => absurd h (by omega)⟩
  · simp [Value.cells] at hcs
    obtain ⟨rfl, rfl, rfl⟩ := hcs
    simp only [if_true] at hmm
    subst hmm
    simp only [Prod.mk.injEq] at hx
    obtain ⟨rfl, -⟩ := hx
    have hw := hsz _ (by simp only [DataW.weights, Try.underlying22]; exact List.mem_cons_self)
    simp only [List.length_map, List.length_range, hB, reachBytes] at hw
    rcases Nat.eq_zero_or_pos len with rfl | hpos
    · exact ⟨[], ⟨rfl, by omega⟩, fun h => absurd h (by omega)⟩
    obtain ⟨cs', hc, ht'⟩ := hi 0 (by omega)
    rw [hC] at hc
    obtain ⟨_, hcl, hat⟩ := World.cells?_some hc
    have h0 := hat 0 (by omega)
    have e : (a.add (0 * 4)).add 0 = a := by simp [Addr.add]
    rw [e, List.getElem?_eq_getElem (by omega)] at h0
    obtain ⟨hs, hlt⟩ := addr_plain h0
    clear hc ht' hat hcl h0 e
    obtain ⟨ab, ao, asp⟩ := a
    simp only at hs hlt
    subst hs
    obtain ⟨ks, hk, hp⟩ := list_of (P := fun i (k : K) => KeyCells w ab (ao + i * 4) k) len fun i him => by
      obtain ⟨cs', hc, ht'⟩ := hi i (by omega)
      rw [hC] at hc
      obtain ⟨_, hcl, hat⟩ := World.cells?_some hc
      obtain ⟨k, rfl⟩ := key_open hcl ht'
      have h0 := hat 0 (by omega)
      have h1 := hat 1 (by omega)
      have h2 := hat 2 (by omega)
      have h3 := hat 3 (by omega)
      simp only [add_plain] at h0 h1 h2 h3
      exact ⟨k, by simpa using h0, by simpa using h1, by simpa using h2, by simpa using h3⟩
    exact ⟨ks, ⟨hk, by omega⟩, fun _ => ⟨ab, ao, rfl, hlt, hp⟩⟩
end
end Go.Proofs.Ytpkpdjekoghkcaa
