/-
  Arguments opened: a term, with its numbers in range; an int64.
-/
import Derived.Test.YtcagaaacfcpoeaaGreatCi
import Derived.Test.YtcagaaacfcpoeaaGreatRows
import Derived.Deep.Slices
import Derived.Deep.Fields
import Derived.ChangeSame
import Derived.SizedLaws
import Derived.Carry
import Derived.ProofKit
namespace Go.Proofs.YtcagaaacfcpoeaaGreat
open Go.ChangeShapes Go.WideShapes Go.Deep Go.RowKit

theorem list_of {α : Type} {P : Nat → α → Prop} : ∀ n, (∀ i, i < n → ∃ x, P i x) → ∃ l : List α, l.length = n ∧ ∀ i x, l[i]? = some x → P i x
  | 0, _ => ⟨[], rfl, fun i x h => by simp at h⟩
  | n + 1, h => by
    obtain ⟨l, hl, hp⟩ := list_of n fun i hi => h i (by omega)
    obtain ⟨x, hx⟩ := h n (by omega)
    refine ⟨l ++ [x], by simp [hl], fun i y hy => ?_⟩
    rw [List.getElem?_append] at hy
    split at hy
    · exact hp i y hy
    · rename_i hlt
      have : i = n := by
        have := (List.getElem?_eq_some_iff.1 hy).1
        simp at this; omega
      subst this
      simp [hl] at hy
      exact hy ▸ hx
theorem addr_plain {w : World} {a : Addr} {v : Value} (h : w.cell? a = some v) : a.spot = none ∧ a.block < w.heap.size := by
  unfold World.cell? at h
  cases hb : w.heap[a.block]? with
  | none => rw [hb] at h; cases h
  | some o =>
    refine ⟨?_, (Array.getElem?_eq_some_iff.1 hb).1⟩
    rw [hb] at h
    cases o with
    | cells c _ _ =>
      simp only at h
      split at h
      · cases h
      · rename_i hs; simpa using hs
    | _ => cases h
theorem add_plain (b off i : Nat) : (Addr.mk b off none).add i = ⟨b, off + i, none⟩ := by
  unfold Addr.add
  by_cases hi : i = 0 <;> simp [hi]

theorem weightsAll_mem {H : Type} {P : Program} {e : TypeId} : ∀ {l : List (DataW H)} {d : DataW H}, d ∈ l → ∀ n ∈ d.weights P e, n ∈ DataW.weightsAll P e l
  | d0 :: r, d, hd, n, hn => by
    simp only [DataW.weightsAll, List.mem_append]
    rcases List.mem_cons.1 hd with rfl | hd
    · exact .inl hn
    · exact .inr (weightsAll_mem hd n hn)
  | [], _, hd, _, _ => by simp at hd

theorem trodAll_below {H : Type} {enc : TypeId × Value → H} {P : Program} (hl : laidOutB P = true) {W W' : World} (hb : Below W.heap.size W W') :
    ∀ {ts : List TypeId} {vs : List Value} {ds : List (DataW H)} {ps : List MemPlace}, (ts.all fun t => P.readableRec t && decide (t < P.types.size)) = true → (∀ x ∈ ps, x.block < W.heap.size) →
      DataW.TrodAll enc P W 0 (fun _ => true) true ts vs ds ps → DataW.TrodAll enc P W' 0 (fun b => decide (b < W.heap.size)) true ts vs ds ps
  | [], [], [], _, _, _, h => h
  | t :: ts, _ :: _, _ :: _, _, hts, hlt, ⟨p, q, h1, h2, e⟩ => by
    simp only [List.all_cons, Bool.and_eq_true, decide_eq_true_eq] at hts
    exact ⟨p, q, Below.trod hl hts.1.1 hts.1.2 h1 hb (fun x hx => hlt x (by rw [e]; exact List.mem_append_left _ hx)),
      trodAll_below hl hb hts.2 (fun x hx => hlt x (by rw [e]; exact List.mem_append_right _ hx)) h2, e⟩
theorem wf_in {m : Int} (h : Lit.wf (.int .i64 m) = true) : inR m := by
  simp only [Lit.wf, IntKind.min, IntKind.max, IntKind.signed, IntKind.bits, Bool.and_eq_true] at h
  have h1 := h.1
  have h2 := h.2
  simp at h1 h2
  unfold inR
  omega
theorem rngT_all (l : List Tm) : rngT.go l = true ↔ ∀ x ∈ l, rngT x = true := by
  induction l with
  | nil => simp [rngT.go]
  | cons x r ih => simp [rngT.go, ih]
section
variable {H : Type} {enc : TypeId × Value → H} {w : World} {base : Nat} {held : Bool}
theorem plain_of_first {a : Addr} {k : Nat} {cs : List Value} (hk : 0 < k) (hc : w.cells? base (a.add (0 * k)) k = some cs) : a.spot = none ∧ a.block < w.heap.size := by
  obtain ⟨_, hcl, hat⟩ := World.cells?_some hc
  have h0 := hat 0 hk
  have e : (a.add (0 * k)).add 0 = a := by simp [Addr.add]
  rw [e, List.getElem?_eq_getElem (by omega)] at h0
  exact addr_plain h0
theorem args_open (n : Nat) : ∀ {cs : List Value} {x : DataW H × List MemPlace}, DataW.trod enc Tryz.prog w base (fun _ => true) held n 22 cs = some x →
    (∀ m ∈ x.1.weights Tryz.prog 22, m ≤ reachBytes) → ∃ (A : Option Addr) (c : Nat) (l : List Tm), cs = [.slice A l.length c] ∧ ArgsAt w (Old w.heap.size) A l ∧ rngT.go l = true := by
  induction n using Nat.strongRecOn with
  | _ n ih =>
    intro cs x h hsz
    have hC : Tryz.prog.cellsOf 24 = 4 := by kernel_rfl
    have hB : Tryz.prog.bytesOf 24 = 56 := by kernel_rfl
    rcases DataW.trod_slice Tryz.underlying22 h with ⟨rfl, rfl⟩ | ⟨a, len, m, elems, rest, n1, hfu, rfl, rfl, hb, hl, hm, hlen, hel, hsp, -⟩
    · exact ⟨none, 0, [], rfl, .nil _, rfl⟩
    · have hrl := (hsp rfl).1
      have hi : ∀ i (him : i < len), ∃ cs', w.cells? base (a.add (i * Tryz.prog.cellsOf 24)) (Tryz.prog.cellsOf 24) = some cs' ∧ DataW.trod enc Tryz.prog w base (fun _ => true) held n1 24 cs' = some (elems[i]'(by omega)) := fun i him => by
        have h1 := hel i him
        rw [List.getElem?_eq_getElem (by omega)] at h1
        cases hcs : w.cells? base (a.add (i * Tryz.prog.cellsOf 24)) (Tryz.prog.cellsOf 24) with
        | none => rw [hcs] at h1; cases h1
        | some cs' => rw [hcs] at h1; exact ⟨cs', rfl, h1⟩
      have hw := hsz _ (by simp only [DataW.weights, Tryz.underlying22]; exact List.mem_cons_self)
      simp only [List.length_map, hB, reachBytes] at hw
      rcases Nat.eq_zero_or_pos len with rfl | hpos
      · exact ⟨some a, m, [], rfl, .nil _, rfl⟩
      obtain ⟨cs', hc, ht'⟩ := hi 0 (by omega)
      rw [hC] at hc
      obtain ⟨hs, hlt⟩ := plain_of_first (by omega) hc
      clear hc ht'
      obtain ⟨ab, ao, asp⟩ := a
      simp only at hs hlt
      subst hs
      obtain ⟨l, hk, hp⟩ := list_of (P := fun i (r : Tm × Option Addr × Nat) => TmCells w ab (ao + i * 4) r.1 r.2.1 r.2.2 ∧ ArgsAt w (Old w.heap.size) r.2.1 r.1.args ∧ rngT r.1 = true) len fun i him => by
        obtain ⟨cs', hc, ht'⟩ := hi i (by omega)
        rw [hC] at hc
        obtain ⟨_, hcl, hat⟩ := World.cells?_some hc
        obtain ⟨ys, n', hn', hy, hl', hyl, hf⟩ := DataW.trod_struct Tryz.underlying24 ht'
        match cs', hcl with
        | [c0, c1, c2, c3], _ =>
          have hC3 : Tryz.prog.cellsOf 3 = 1 := by kernel_rfl
          have hC2 : Tryz.prog.cellsOf 2 = 1 := by kernel_rfl
          have hC9 : Tryz.prog.cellsOf 9 = 1 := by kernel_rfl
          have hC22 : Tryz.prog.cellsOf 22 = 1 := by kernel_rfl
          have f0 := hf 0 _ rfl
          have f1 := hf 1 _ rfl
          have f2 := hf 2 _ rfl
          have f3 := hf 3 _ rfl
          match ys, hyl with
          | [y0, y1, y2, y3], _ =>
            obtain ⟨k, e0, -, -⟩ := DataW.trod_int Tryz.underlying3 (x := y0) (by simpa [hC3] using f0)
            obtain ⟨m', e1, -, hwf⟩ := DataW.trod_int Tryz.underlying2 (x := y1) (by simpa [hC2] using f1)
            obtain ⟨s, e2, -, -⟩ := DataW.trod_string Tryz.underlying9 (x := y2) (by simpa [hC9] using f2)
            obtain ⟨A, c, l, e3, hl3, hr3⟩ := ih n' (by omega) (x := y3) (cs := [c3]) (by simpa [hC22] using f3) (fun q hq => hsz q (by
              simp only [DataW.weights, Tryz.underlying22]
              refine List.mem_cons_of_mem _ (List.mem_append_left _ (weightsAll_mem (List.mem_map.2 ⟨_, List.getElem_mem (by omega : i < elems.length), rfl⟩) q ?_))
              rw [hy]
              simp only [DataW.weights, Tryz.underlying24]
              exact DataW.weights_mem_each (j := 3) rfl rfl q hq))
            simp only [List.cons.injEq, and_true] at e0 e1 e2 e3
            subst e0 e1 e2 e3
            have h0 := hat 0 (by omega)
            have h1 := hat 1 (by omega)
            have h2 := hat 2 (by omega)
            have h3 := hat 3 (by omega)
            simp only [add_plain] at h0 h1 h2 h3
            exact ⟨(.mk k m' s l, A, c), ⟨by simpa [Tm.kind] using h0, by simpa [Tm.n] using h1, by simpa [Tm.name] using h2, by simpa [Tm.args] using h3⟩, hl3, by rw [rngT_eq]; simp only [Tm.n, Tm.args, hr3, Bool.and_true]; exact decide_eq_true (wf_in hwf)⟩
      subst hk
      refine ⟨some ⟨ab, ao, none⟩, m, l.map (·.1), by simp, ?_, (rngT_all _).2 (fun x hx => by
        obtain ⟨r, hr, rfl⟩ := List.mem_map.1 hx
        obtain ⟨i, hi⟩ := List.getElem?_of_mem hr
        exact (hp i r hi).2.2)⟩
      refine .row ab ao _ (fun i => ((l[i]?).map (·.2.1)).getD none) (fun i => ((l[i]?).map (·.2.2)).getD 0) hlt (by simp; omega) ?_ ?_
      · intro i x hx
        rw [List.getElem?_map] at hx
        cases hr : l[i]? with
        | none => rw [hr] at hx; cases hx
        | some r =>
          rw [hr] at hx
          simp at hx
          subst hx
          exact (hp i r hr).1
      · intro i x hx
        rw [List.getElem?_map] at hx
        cases hr : l[i]? with
        | none => rw [hr] at hx; cases hx
        | some r =>
          rw [hr] at hx
          simp at hx
          subst hx
          exact (hp i r hr).2.1
theorem term_val {v : Value} {b0 : Nat} {r : Reach} {d : DataW H} {ps : List MemPlace} (hv : Value.okWide Tryz.prog w r b0 24 v) (h : DataW.Trod enc Tryz.prog w base (fun _ => true) held 24 v d ps)
    (hsz : ∀ n ∈ d.weights Tryz.prog 24, n ≤ reachBytes) : ∃ (t : Tm) (A : Option Addr) (c : Nat), v = t.v A c ∧ ArgsAt w (Old w.heap.size) A t.args ∧ rngT t = true := by
  obtain ⟨cs, rfl, hcs⟩ := okWide_struct Tryz.underlying24 hv
  have hC : Tryz.prog.cellsOf 24 = 4 := by kernel_rfl
  rw [hC] at hcs
  obtain ⟨fuel, hf⟩ := h
  obtain ⟨ys, n', hn', hx, hl, hyl, hfs⟩ := DataW.trod_struct Tryz.underlying24 hf
  simp only [Prod.mk.injEq] at hx
  obtain ⟨rfl, -⟩ := hx
  obtain ⟨cl⟩ := cs
  have hC3 : Tryz.prog.cellsOf 3 = 1 := by kernel_rfl
  have hC2 : Tryz.prog.cellsOf 2 = 1 := by kernel_rfl
  have hC9 : Tryz.prog.cellsOf 9 = 1 := by kernel_rfl
  have hC22 : Tryz.prog.cellsOf 22 = 1 := by kernel_rfl
  have f0 := hfs 0 _ rfl
  have f1 := hfs 1 _ rfl
  have f2 := hfs 2 _ rfl
  have f3 := hfs 3 _ rfl
  match cl, hcs with
  | [c0, c1, c2, c3], _ =>
    match ys, hyl with
    | [y0, y1, y2, y3], _ =>
      obtain ⟨k, e0, -, -⟩ := DataW.trod_int Tryz.underlying3 (x := y0) (cs := [c0]) (by simpa [hC3, Value.cells] using f0)
      obtain ⟨m', e1, -, hwf⟩ := DataW.trod_int Tryz.underlying2 (x := y1) (cs := [c1]) (by simpa [hC2, Value.cells] using f1)
      obtain ⟨s, e2, -, -⟩ := DataW.trod_string Tryz.underlying9 (x := y2) (cs := [c2]) (by simpa [hC9, Value.cells] using f2)
      obtain ⟨A, c, l, e3, hl3, hr3⟩ := args_open n' (x := y3) (cs := [c3]) (by simpa [hC22, Value.cells] using f3) (fun q hq => hsz q (by
        simp only [DataW.weights, Tryz.underlying24]
        exact DataW.weights_mem_each (j := 3) rfl rfl q hq))
      simp only [List.cons.injEq, and_true] at e0 e1 e2 e3
      subst e0 e1 e2 e3
      exact ⟨.mk k m' s l, A, c, rfl, hl3, by rw [rngT_eq]; simp only [Tm.n, Tm.args, hr3, Bool.and_true]; exact decide_eq_true (wf_in hwf)⟩
theorem int_val {v : Value} {b0 : Nat} {r : Reach} {sp : Nat → Bool} {d : DataW H} {ps : List MemPlace} (hv : Value.okWide Tryz.prog w r b0 2 v) (h : DataW.Trod enc Tryz.prog w base sp held 2 v d ps) :
    ∃ n : Int, v = .int .i64 n ∧ inR n := by
  obtain ⟨n, rfl⟩ := okWide_int Tryz.underlying2 hv
  obtain ⟨fuel, hf⟩ := h
  obtain ⟨m, e, -, hw⟩ := DataW.trod_int Tryz.underlying2 hf
  simp only [Value.cells, List.cons.injEq, and_true] at e
  injection e with _ e
  subst e
  exact ⟨n, rfl, wf_in hw⟩
end
end Go.Proofs.YtcagaaacfcpoeaaGreat
