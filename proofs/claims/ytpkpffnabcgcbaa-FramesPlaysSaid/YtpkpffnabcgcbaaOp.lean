/-
  Arguments opened: stacks, choice points, rows of calls; what a call leaves.
-/
import Derived.Test.YtpkpffnabcgcbaaFv
import Derived.Test.YtpkpffnabcgcbaaFt
import Derived.Test.YtpkpffnabcgcbaaFx
import Derived.Test.YtpkpffnabcgcbaaRows
import Derived.Deep.Slices
import Derived.Deep.Fields
import Derived.ChangeSame
import Derived.SizedLaws
import Derived.Carry
import Derived.OpenShut
namespace Go.Proofs.Ytpkpffnabcgcbaa
open Go.ChangeShapes Go.WideShapes Go.Deep Go.RowKit

theorem list_of {α : Type} {P : Nat → α → Prop} : ∀ n, (∀ i, i < n → ∃ x, P i x) → ∃ l : List α, l.length = n ∧ ∀ i x, l[i]? = some x → P i x
  | 0, _ => ⟨[], rfl, fun i x h => by simp at h⟩
  | n + 1, h => by
    obtain ⟨l, hl, hp⟩ := list_of n fun i hi => h i (by omega)
    obtain ⟨x, hx⟩ := h n (by omega)
    refine ⟨l ++ [x], by simp [hl], fun i y hy => ?_⟩
    rw [List.getElem?_append] at hy
    split at hy
    · exact hp i y hy
    · rename_i hlt
      have : i = n := by
        have := (List.getElem?_eq_some_iff.1 hy).1
        simp at this; omega
      subst this
      simp [hl] at hy
      exact hy ▸ hx
theorem addr_plain {w : World} {a : Addr} {v : Value} (h : w.cell? a = some v) : a.spot = none ∧ a.block < w.heap.size := by
  unfold World.cell? at h
  cases hb : w.heap[a.block]? with
  | none => rw [hb] at h; cases h
  | some o =>
    refine ⟨?_, (Array.getElem?_eq_some_iff.1 hb).1⟩
    rw [hb] at h
    cases o with
    | cells c _ _ =>
      simp only at h
      split at h
      · cases h
      · rename_i hs; simpa using hs
    | _ => cases h
theorem weightsAll_mem {H : Type} {P : Program} {e : TypeId} : ∀ {l : List (DataW H)} {d : DataW H}, d ∈ l → ∀ n ∈ d.weights P e, n ∈ DataW.weightsAll P e l
  | d0 :: r, d, hd, n, hn => by
    simp only [DataW.weightsAll, List.mem_append]
    rcases List.mem_cons.1 hd with rfl | hd
    · exact .inl hn
    · exact .inr (weightsAll_mem hd n hn)
  | [], _, hd, _, _ => by simp at hd

theorem slice_cap {H : Type} {enc : TypeId × Value → H} {P : Program} {w : World} {base : Nat} {sp : Nat → Bool} {held : Bool} {t e : TypeId} {a0 : Option Addr} {len cap : Nat} {d : DataW H} {ps : List MemPlace} (ht : P.underlying t = some (.slice e))
    (h : DataW.Trod enc P w base sp held t (.slice a0 len cap) d ps) : len ≤ cap := by
  obtain ⟨fuel, hf⟩ := h
  rcases Deep.open_slice ht hf with ⟨hcs, -⟩ | ⟨a, len', cap', m, n, D, Pl, hcs, -, hl, -⟩ <;> simp [Value.cells] at hcs <;> omega
theorem slice_none {H : Type} {enc : TypeId × Value → H} {P : Program} {w : World} {base : Nat} {sp : Nat → Bool} {held : Bool} {t e : TypeId} {a0 : Option Addr} {len cap : Nat} {d : DataW H} {ps : List MemPlace} (ht : P.underlying t = some (.slice e))
    (h : DataW.Trod enc P w base sp held t (.slice a0 len cap) d ps) : a0 = none → cap = 0 := by
  obtain ⟨fuel, hf⟩ := h
  rcases Deep.open_slice ht hf with ⟨hcs, -⟩ | ⟨a, len', cap', m, n, D, Pl, hcs, -, hl, -⟩ <;> simp [Value.cells] at hcs <;> simp [hcs]

theorem trodAll_below {H : Type} {enc : TypeId × Value → H} {P : Program} (hl : laidOutB P = true) {W W' : World} (hb : Below W.heap.size W W') :
    ∀ {ts : List TypeId} {vs : List Value} {ds : List (DataW H)} {ps : List MemPlace}, (ts.all fun t => P.readableRec t && decide (t < P.types.size)) = true → (∀ x ∈ ps, x.block < W.heap.size) →
      DataW.TrodAll enc P W 0 (fun _ => true) true ts vs ds ps → DataW.TrodAll enc P W' 0 (fun b => decide (b < W.heap.size)) true ts vs ds ps
  | [], [], [], _, _, _, h => h
  | t :: ts, _ :: _, _ :: _, _, hts, hlt, ⟨p, q, h1, h2, e⟩ => by
    simp only [List.all_cons, Bool.and_eq_true, decide_eq_true_eq] at hts
    exact ⟨p, q, Below.trod hl hts.1.1 hts.1.2 h1 hb (fun x hx => hlt x (by rw [e]; exact List.mem_append_left _ hx)),
      trodAll_below hl hb hts.2 (fun x hx => hlt x (by rw [e]; exact List.mem_append_right _ hx)) h2, e⟩

theorem add_plain' (b o i : Nat) : (⟨b, o, none⟩ : Addr).add i = ⟨b, o + i, none⟩ := by cases i <;> simp [Addr.add]
section
variable {H : Type} {enc : TypeId × Value → H} {w : World} {base : Nat} {held : Bool}
theorem plain_of_first {a : Addr} {k : Nat} {cs : List Value} (hk : 0 < k) (hc : w.cells? base (a.add (0 * k)) k = some cs) : a.spot = none ∧ a.block < w.heap.size := by
  obtain ⟨_, hcl, hat⟩ := World.cells?_some hc
  have h0 := hat 0 hk
  have e : (a.add (0 * k)).add 0 = a := by simp [Addr.add]
  rw [e, List.getElem?_eq_getElem (by omega)] at h0
  exact addr_plain h0

/-- a slice's elements, each with the cells that it has -/
theorem row_rel {α : Type} {t e : TypeId} {k b : Nat} (R : α → List Value → Prop) (ht : Try.prog.underlying t = some (.slice e)) (hC : Try.prog.cellsOf e = k) (hk : 0 < k) (hB : Try.prog.bytesOf e = b)
    (ho : ∀ {cs : List Value} {n : Nat} {x : DataW H × List MemPlace}, cs.length = k → DataW.trod enc Try.prog w base (fun _ => true) held n e cs = some x → (∀ m ∈ x.1.weights Try.prog e, m ≤ reachBytes) → ∃ y, R y cs)
    {cs : List Value} {n : Nat} {x : DataW H × List MemPlace} (h : DataW.trod enc Try.prog w base (fun _ => true) held n t cs = some x)
    (hsz : ∀ m ∈ x.1.weights Try.prog t, m ≤ reachBytes) :
    ∃ (A : Option Addr) (c : Nat) (l : List α), cs = [.slice A l.length c] ∧ CapOk A l.length c ∧ l.length * b ≤ reachBytes ∧
      (0 < l.length → ∃ ab ao, A = some ⟨ab, ao, none⟩ ∧ ab < w.heap.size ∧ ∀ i y, l[i]? = some y → ∃ es, R y es ∧ ∀ j v, es[j]? = some v → w.cell? ⟨ab, ao + i * k + j, none⟩ = some v) ∧ ∀ y ∈ l, ∃ es, R y es := by
  rcases DataW.trod_slice ht h with ⟨rfl, rfl⟩ | ⟨a, len, m, elems, rest, n1, hfu, rfl, rfl, hb, hl, hm, hlen, hel, hsp, -⟩
  · exact ⟨none, 0, [], rfl, ⟨Nat.le_refl _, fun _ => rfl⟩, by simp, fun h => absurd h (by simp), fun y hy => by simp at hy⟩
  · have hrl := (hsp rfl).1
    have hi : ∀ i (him : i < len), ∃ cs', w.cells? base (a.add (i * Try.prog.cellsOf e)) (Try.prog.cellsOf e) = some cs' ∧ DataW.trod enc Try.prog w base (fun _ => true) held n1 e cs' = some (elems[i]'(by omega)) := fun i him => by
      have h1 := hel i him
      rw [List.getElem?_eq_getElem (by omega)] at h1
      cases hcs : w.cells? base (a.add (i * Try.prog.cellsOf e)) (Try.prog.cellsOf e) with
      | none => rw [hcs] at h1; cases h1
      | some cs' => rw [hcs] at h1; exact ⟨cs', rfl, h1⟩
    have hw := hsz _ (by simp only [DataW.weights, ht]; exact List.mem_cons_self)
    simp only [List.length_map, hB] at hw
    have hlb : len * b ≤ reachBytes := by
      refine Nat.le_trans ?_ hw
      first | exact Nat.mul_le_mul_right _ (by omega) | (rw [Nat.mul_comm]; exact Nat.mul_le_mul_left _ (by omega))
    rcases Nat.eq_zero_or_pos len with rfl | hpos
    · exact ⟨some a, m, [], rfl, ⟨by simp, fun h => by cases h⟩, by simp, fun h => absurd h (by simp), fun y hy => by simp at hy⟩
    obtain ⟨cs', hc, ht'⟩ := hi 0 (by omega)
    rw [hC] at hc
    obtain ⟨hs, hlt⟩ := plain_of_first hk hc
    clear hc ht'
    obtain ⟨ab, ao, asp⟩ := a
    simp only at hs hlt
    subst hs
    obtain ⟨l, hk', hp⟩ := list_of (P := fun i (y : α) => ∃ es, R y es ∧ ∀ j v, es[j]? = some v → w.cell? ⟨ab, ao + i * k + j, none⟩ = some v) len fun i him => by
      obtain ⟨cs', hc, ht'⟩ := hi i (by omega)
      rw [hC] at hc
      obtain ⟨_, hcl, hat⟩ := World.cells?_some hc
      obtain ⟨y, hy⟩ := ho hcl ht' (fun q hq => hsz q (by
        simp only [DataW.weights, ht]
        exact List.mem_cons_of_mem _ (List.mem_append_left _ (weightsAll_mem (List.mem_map.2 ⟨_, List.getElem_mem (by omega : i < elems.length), rfl⟩) q hq))))
      refine ⟨y, cs', hy, fun j v hv => ?_⟩
      have hj : j < k := by
        have := (List.getElem?_eq_some_iff.1 hv).1
        omega
      have hq := hat j hj
      simp only [add_plain'] at hq
      rw [hq, hv]
    subst hk'
    exact ⟨some ⟨ab, ao, none⟩, m, l, rfl, ⟨by omega, fun h => by cases h⟩, hlb, fun _ => ⟨ab, ao, rfl, hlt, hp⟩, fun y hy => by
      obtain ⟨i, hi'⟩ := List.mem_iff_getElem?.1 hy
      obtain ⟨es, h1, -⟩ := hp i y hi'
      exact ⟨es, h1⟩⟩
set_option maxHeartbeats 1000000 in
theorem cl_open {cs : List Value} {n : Nat} {x : DataW H × List MemPlace} (hlen : cs.length = 2) (h : DataW.trod enc Try.prog w base (fun _ => true) held n 38 cs = some x) :
    ∃ y : Cl, cs = [.int .i64 y.tag, .int .i64 y.n] := by
  obtain ⟨ys, n', hn', hy, hl, hyl, hf⟩ := DataW.trod_struct Try.underlying38 h
  match cs, hlen with
  | [c0, c1], _ =>
    have hC2 : Try.prog.cellsOf 2 = 1 := by kernel_rfl
    have hC3 : Try.prog.cellsOf 3 = 1 := by kernel_rfl
    have f0 := hf 0 _ rfl
    have f1 := hf 1 _ rfl
    match ys, hyl with
    | [y0, y1], _ =>
      obtain ⟨z0, e0, -, -⟩ := DataW.trod_int Try.underlying3 (x := y0) (by simpa [hC2, hC3] using f0)
      obtain ⟨z1, e1, -, -⟩ := DataW.trod_int Try.underlying2 (x := y1) (by simpa [hC2, hC3] using f1)
      simp only [List.cons.injEq, and_true] at e0 e1
      subst e0 e1
      exact ⟨⟨z0, z1⟩, rfl⟩
theorem cells_open {cs : List Value} {n : Nat} {x : DataW H × List MemPlace} (h : DataW.trod enc Try.prog w base (fun _ => true) held n 26 cs = some x) (hsz : ∀ m ∈ x.1.weights Try.prog 26, m ≤ reachBytes) :
    ∃ (A : Option Addr) (c : Nat) (l : List Cl), cs = [.slice A l.length c] ∧ CapOk A l.length c ∧ l.length ≤ 8796093022208 ∧ CellsAt w A l := by
  obtain ⟨A, c, l, e, hc, hb, hr, -⟩ := row_rel (fun (y : Cl) es => es = [.int .i64 y.tag, .int .i64 y.n]) Try.underlying26 (k := 2) (b := 16) (by kernel_rfl) (by omega) (by kernel_rfl) (fun hl hx _ => cl_open hl hx) h hsz
  refine ⟨A, c, l, e, hc, by simp only [reachBytes] at hb; omega, fun hn => ?_⟩
  obtain ⟨ab, ao, e, hlt, ha⟩ := hr hn
  exact ⟨ab, ao, e, hlt, fun i y hy => by
    obtain ⟨es, rfl, hes⟩ := ha i y hy
    exact ⟨hes 0 _ rfl, hes 1 _ rfl⟩⟩
theorem ints_open {cs : List Value} {n : Nat} {x : DataW H × List MemPlace} (h : DataW.trod enc Try.prog w base (fun _ => true) held n 27 cs = some x) (hsz : ∀ m ∈ x.1.weights Try.prog 27, m ≤ reachBytes) :
    ∃ (A : Option Addr) (c : Nat) (l : List Int), cs = [.slice A l.length c] ∧ CapOk A l.length c ∧ l.length ≤ 17592186044416 ∧ IntsAt w A l := by
  obtain ⟨A, c, l, e, hc, hb, hr, -⟩ := row_rel (fun (y : Int) es => es = [.int .i64 y]) Try.underlying27 (k := 1) (b := 8) (by kernel_rfl) (by omega) (by kernel_rfl) (fun hl hx _ => by
    obtain ⟨z, e, -, -⟩ := DataW.trod_int Try.underlying2 hx
    exact ⟨z, e⟩) h hsz
  refine ⟨A, c, l, e, hc, by simp only [reachBytes] at hb; omega, fun hn => ?_⟩
  obtain ⟨ab, ao, e, hlt, ha⟩ := hr hn
  exact ⟨ab, ao, e, hlt, fun i y hy => by
    obtain ⟨es, rfl, hes⟩ := ha i y hy
    have := hes 0 _ rfl
    simpa using this⟩
/-- the cells of an environment, of a choice point, with what their slices hold -/
def EnR (w : World) (x : En) (es : List Value) : Prop := ∃ A c, es = [.int .i64 x.prev, .int .i64 x.id, .int .i64 x.pc, .slice A x.y.length c] ∧ CapOk A x.y.length c ∧ x.y.length ≤ 8796093022208 ∧ CellsAt w A x.y
def ChR (w : World) (x : Ch) (A : Option Addr) (c : Nat) (A' : Option Addr) (c' : Nat) : Prop := CapOk A x.args.length c ∧ CapOk A' x.alts.length c' ∧ x.args.length ≤ 8796093022208 ∧ x.alts.length ≤ 17592186044416 ∧ CellsAt w A x.args ∧ IntsAt w A' x.alts
set_option maxHeartbeats 1000000 in
theorem env_open {cs : List Value} {n : Nat} {x : DataW H × List MemPlace} (hlen : cs.length = 4) (h : DataW.trod enc Try.prog w base (fun _ => true) held n 54 cs = some x) (hsz : ∀ m ∈ x.1.weights Try.prog 54, m ≤ reachBytes) :
    ∃ y : En, EnR w y cs := by
  obtain ⟨ys, n', hn', hy, hl, hyl, hf⟩ := DataW.trod_struct Try.underlying54 h
  match cs, hlen with
  | [c0, c1, c2, c3], _ =>
    have hC2 : Try.prog.cellsOf 2 = 1 := by kernel_rfl
    have hC3 : Try.prog.cellsOf 3 = 1 := by kernel_rfl
    have hC26 : Try.prog.cellsOf 26 = 1 := by kernel_rfl
    have f0 := hf 0 _ rfl
    have f1 := hf 1 _ rfl
    have f2 := hf 2 _ rfl
    have f3 := hf 3 _ rfl
    match ys, hyl with
    | [y0, y1, y2, y3], _ =>
      have hs : ∀ (j : Nat) (t : TypeId) (y : DataW H × List MemPlace), [3, 2, 3, 26][j]? = some t → [y0, y1, y2, y3][j]? = some y → ∀ m ∈ y.1.weights Try.prog t, m ≤ reachBytes := fun j t y ht hy' m hm => hsz m (by
        rw [hy]
        simp only [DataW.weights, Try.underlying54]
        exact DataW.weights_mem_each (j := j) ht (by rw [List.getElem?_map, hy']; rfl) m hm)
      obtain ⟨z0, e0, -, -⟩ := DataW.trod_int Try.underlying3 (x := y0) (by simpa [hC2, hC3, hC26] using f0)
      obtain ⟨z1, e1, -, -⟩ := DataW.trod_int Try.underlying2 (x := y1) (by simpa [hC2, hC3, hC26] using f1)
      obtain ⟨z2, e2, -, -⟩ := DataW.trod_int Try.underlying3 (x := y2) (by simpa [hC2, hC3, hC26] using f2)
      obtain ⟨A3, a3, z3, e3, k3, b3, r3⟩ := cells_open (x := y3) (cs := [c3]) (by simpa [hC2, hC3, hC26] using f3) (hs 3 26 y3 rfl rfl)
      simp only [List.cons.injEq, and_true] at e0 e1 e2 e3
      subst e0 e1 e2 e3
      exact ⟨⟨z0, z1, z2, z3⟩, _, _, rfl, k3, b3, r3⟩
set_option maxHeartbeats 1000000 in
theorem ch_open {cs : List Value} {n : Nat} {x : DataW H × List MemPlace} (hlen : cs.length = 11) (h : DataW.trod enc Try.prog w base (fun _ => true) held n 29 cs = some x) (hsz : ∀ m ∈ x.1.weights Try.prog 29, m ≤ reachBytes) :
    ∃ (y : Ch) (A : Option Addr) (c : Nat) (A' : Option Addr) (c' : Nat), cs = [.int .i64 y.kind, .slice A y.args.length c, .int .i64 y.env, .int .i64 y.id, .int .i64 y.pc, .int .i64 y.cut, .int .i64 y.mark, .int .i64 y.top, .int .i64 y.envs, .slice A' y.alts.length c', .int .i64 y.data] ∧ ChR w y A c A' c' := by
  obtain ⟨ys, n', hn', hy, hl, hyl, hf⟩ := DataW.trod_struct Try.underlying29 h
  match cs, hlen with
  | [c0, c1, c2, c3, c4, c5, c6, c7, c8, c9, c10], _ =>
    have hC2 : Try.prog.cellsOf 2 = 1 := by kernel_rfl
    have hC3 : Try.prog.cellsOf 3 = 1 := by kernel_rfl
    have hC26 : Try.prog.cellsOf 26 = 1 := by kernel_rfl
    have hC27 : Try.prog.cellsOf 27 = 1 := by kernel_rfl
    have f0 := hf 0 _ rfl
    have f1 := hf 1 _ rfl
    have f2 := hf 2 _ rfl
    have f3 := hf 3 _ rfl
    have f4 := hf 4 _ rfl
    have f5 := hf 5 _ rfl
    have f6 := hf 6 _ rfl
    have f7 := hf 7 _ rfl
    have f8 := hf 8 _ rfl
    have f9 := hf 9 _ rfl
    have f10 := hf 10 _ rfl
    match ys, hyl with
    | [y0, y1, y2, y3, y4, y5, y6, y7, y8, y9, y10], _ =>
      have hs : ∀ (j : Nat) (t : TypeId) (y : DataW H × List MemPlace), [3, 26, 3, 2, 3, 3, 3, 3, 3, 27, 2][j]? = some t → [y0, y1, y2, y3, y4, y5, y6, y7, y8, y9, y10][j]? = some y → ∀ m ∈ y.1.weights Try.prog t, m ≤ reachBytes := fun j t y ht hy' m hm => hsz m (by
        rw [hy]
        simp only [DataW.weights, Try.underlying29]
        exact DataW.weights_mem_each (j := j) ht (by rw [List.getElem?_map, hy']; rfl) m hm)
      obtain ⟨z0, e0, -, -⟩ := DataW.trod_int Try.underlying3 (x := y0) (by simpa [hC2, hC3, hC26, hC27] using f0)
      obtain ⟨A1, a1, z1, e1, k1, b1, r1⟩ := cells_open (x := y1) (cs := [c1]) (by simpa [hC2, hC3, hC26, hC27] using f1) (hs 1 26 y1 rfl rfl)
      obtain ⟨z2, e2, -, -⟩ := DataW.trod_int Try.underlying3 (x := y2) (by simpa [hC2, hC3, hC26, hC27] using f2)
      obtain ⟨z3, e3, -, -⟩ := DataW.trod_int Try.underlying2 (x := y3) (by simpa [hC2, hC3, hC26, hC27] using f3)
      obtain ⟨z4, e4, -, -⟩ := DataW.trod_int Try.underlying3 (x := y4) (by simpa [hC2, hC3, hC26, hC27] using f4)
      obtain ⟨z5, e5, -, -⟩ := DataW.trod_int Try.underlying3 (x := y5) (by simpa [hC2, hC3, hC26, hC27] using f5)
      obtain ⟨z6, e6, -, -⟩ := DataW.trod_int Try.underlying3 (x := y6) (by simpa [hC2, hC3, hC26, hC27] using f6)
      obtain ⟨z7, e7, -, -⟩ := DataW.trod_int Try.underlying3 (x := y7) (by simpa [hC2, hC3, hC26, hC27] using f7)
      obtain ⟨z8, e8, -, -⟩ := DataW.trod_int Try.underlying3 (x := y8) (by simpa [hC2, hC3, hC26, hC27] using f8)
      obtain ⟨A9, a9, z9, e9, k9, b9, r9⟩ := ints_open (x := y9) (cs := [c9]) (by simpa [hC2, hC3, hC26, hC27] using f9) (hs 9 27 y9 rfl rfl)
      obtain ⟨z10, e10, -, -⟩ := DataW.trod_int Try.underlying2 (x := y10) (by simpa [hC2, hC3, hC26, hC27] using f10)
      simp only [List.cons.injEq, and_true] at e0 e1 e2 e3 e4 e5 e6 e7 e8 e9 e10
      subst e0 e1 e2 e3 e4 e5 e6 e7 e8 e9 e10
      exact ⟨⟨z0, z1, z2, z3, z4, z5, z6, z7, z8, z9, z10⟩, _, _, _, _, rfl, k1, k9, b1, b9, r1, r9⟩
theorem envs_open {cs : List Value} {n : Nat} {x : DataW H × List MemPlace} (h : DataW.trod enc Try.prog w base (fun _ => true) held n 22 cs = some x) (hsz : ∀ m ∈ x.1.weights Try.prog 22, m ≤ reachBytes) :
    ∃ (A : Option Addr) (c : Nat) (l : List En), cs = [.slice A l.length c] ∧ CapOk A l.length c ∧ l.length ≤ 10000000000000 ∧ EnvsAt w A l ∧ ∀ y ∈ l, y.y.length ≤ 8796093022208 := by
  obtain ⟨A, c, l, e, hc, hb, hr, hm⟩ := row_rel (EnR w) Try.underlying22 (k := 4) (b := 48) (by kernel_rfl) (by omega) (by kernel_rfl) (fun hl hx hs => env_open hl hx hs) h hsz
  refine ⟨A, c, l, e, hc, by simp only [reachBytes] at hb; omega, fun hn => ?_, fun y hy => by obtain ⟨_, _, _, _, _, h, _⟩ := hm y hy; exact h⟩
  obtain ⟨ab, ao, e, hlt, ha⟩ := hr hn
  exact ⟨ab, ao, e, hlt, fun i y hy => by
    obtain ⟨es, ⟨A', c', rfl, h1, -, h2⟩, hes⟩ := ha i y hy
    exact ⟨A', c', hes 0 _ rfl, hes 1 _ rfl, hes 2 _ rfl, hes 3 _ rfl, h1, h2⟩⟩
theorem chs_open {cs : List Value} {n : Nat} {x : DataW H × List MemPlace} (h : DataW.trod enc Try.prog w base (fun _ => true) held n 23 cs = some x) (hsz : ∀ m ∈ x.1.weights Try.prog 23, m ≤ reachBytes) :
    ∃ (A : Option Addr) (c : Nat) (l : List Ch), cs = [.slice A l.length c] ∧ CapOk A l.length c ∧ l.length ≤ 10000000000000 ∧ ChsAt w A l ∧ ∀ y ∈ l, y.args.length ≤ 8796093022208 ∧ y.alts.length ≤ 17592186044416 := by
  obtain ⟨A, c, l, e, hc, hb, hr, hm⟩ := row_rel (fun (y : Ch) es => ∃ (A : Option Addr) (c : Nat) (A' : Option Addr) (c' : Nat), es = [.int .i64 y.kind, .slice A y.args.length c, .int .i64 y.env, .int .i64 y.id, .int .i64 y.pc, .int .i64 y.cut, .int .i64 y.mark, .int .i64 y.top, .int .i64 y.envs, .slice A' y.alts.length c', .int .i64 y.data] ∧ ChR w y A c A' c') Try.underlying23 (k := 11) (b := 120) (by kernel_rfl) (by omega) (by kernel_rfl) (fun hl hx hs => ch_open hl hx hs) h hsz
  refine ⟨A, c, l, e, hc, by simp only [reachBytes] at hb; omega, fun hn => ?_, fun y hy => by obtain ⟨_, _, _, _, _, _, _, _, h1, h2, _⟩ := hm y hy; exact ⟨h1, h2⟩⟩
  obtain ⟨ab, ao, e, hlt, ha⟩ := hr hn
  exact ⟨ab, ao, e, hlt, fun i y hy => by
    obtain ⟨es, ⟨A1, c1, A2, c2, rfl, h1, h2, -, -, h3, h4⟩, hes⟩ := ha i y hy
    exact ⟨A1, c1, A2, c2, hes 0 _ rfl, hes 1 _ rfl, hes 2 _ rfl, hes 3 _ rfl, hes 4 _ rfl, hes 5 _ rfl, hes 6 _ rfl, hes 7 _ rfl, hes 8 _ rfl, hes 9 _ rfl, hes 10 _ rfl, h1, h2, h3, h4⟩⟩
/-- what is known of stacks that are given -/
structure StIn (w : World) (A : Option Addr) (c : Nat) (A' : Option Addr) (c' : Nat) (s : St) : Prop where
  at' : StAt w A c A' c' s
  envs : s.envs.length ≤ 10000000000000
  chs : s.chs.length ≤ 10000000000000
  y : ∀ x ∈ s.envs, x.y.length ≤ 10000000000000
  ch : ∀ x ∈ s.chs, x.args.length ≤ 8796093022208 ∧ x.alts.length ≤ 17592186044416
set_option maxHeartbeats 1000000 in
theorem st_open {cs : List Value} {n : Nat} {x : DataW H × List MemPlace} (hlen : cs.length = 3) (h : DataW.trod enc Try.prog w base (fun _ => true) held n 25 cs = some x) (hsz : ∀ m ∈ x.1.weights Try.prog 25, m ≤ reachBytes) :
    ∃ (s : St) (A : Option Addr) (c : Nat) (A' : Option Addr) (c' : Nat), cs = [.slice A s.envs.length c, .int .i64 s.e, .slice A' s.chs.length c'] ∧ StIn w A c A' c' s := by
  obtain ⟨ys, n', hn', hy, hl, hyl, hf⟩ := DataW.trod_struct Try.underlying25 h
  match cs, hlen with
  | [c0, c1, c2], _ =>
    have hC3 : Try.prog.cellsOf 3 = 1 := by kernel_rfl
    have hC22 : Try.prog.cellsOf 22 = 1 := by kernel_rfl
    have hC23 : Try.prog.cellsOf 23 = 1 := by kernel_rfl
    have f0 := hf 0 _ rfl
    have f1 := hf 1 _ rfl
    have f2 := hf 2 _ rfl
    match ys, hyl with
    | [y0, y1, y2], _ =>
      have hs : ∀ (j : Nat) (t : TypeId) (y : DataW H × List MemPlace), [22, 3, 23][j]? = some t → [y0, y1, y2][j]? = some y → ∀ m ∈ y.1.weights Try.prog t, m ≤ reachBytes := fun j t y ht hy' m hm => hsz m (by
        rw [hy]
        simp only [DataW.weights, Try.underlying25]
        exact DataW.weights_mem_each (j := j) ht (by rw [List.getElem?_map, hy']; rfl) m hm)
      obtain ⟨A0, a0, z0, e0, k0, b0, r0⟩ := envs_open (x := y0) (cs := [c0]) (by simpa [hC3, hC22, hC23] using f0) (hs 0 22 y0 rfl rfl)
      obtain ⟨z1, e1, -, -⟩ := DataW.trod_int Try.underlying3 (x := y1) (by simpa [hC3, hC22, hC23] using f1)
      obtain ⟨A2, a2, z2, e2, k2, b2, r2⟩ := chs_open (x := y2) (cs := [c2]) (by simpa [hC3, hC22, hC23] using f2) (hs 2 23 y2 rfl rfl)
      simp only [List.cons.injEq, and_true] at e0 e1 e2
      subst e0 e1 e2
      exact ⟨⟨z0, z1, z2⟩, _, _, _, _, rfl, ⟨k0, k2, r0.1, r2.1⟩, b0, b2, fun x hx => Nat.le_trans (r0.2 x hx) (by omega), r2.2⟩
set_option maxHeartbeats 1000000 in
theorem step_open {cs : List Value} {n : Nat} {x : DataW H × List MemPlace} (hlen : cs.length = 17) (h : DataW.trod enc Try.prog w base (fun _ => true) held n 40 cs = some x) (hsz : ∀ m ∈ x.1.weights Try.prog 40, m ≤ reachBytes) :
    ∃ (y : Sp) (A : Option Addr) (c : Nat) (A' : Option Addr) (c' : Nat), cs = [.int .i64 y.what, .int .i64 y.n, .int .i64 y.id, .int .i64 y.pc, .int .i64 y.c.tag, .int .i64 y.c.n, .int .i64 y.ch.kind, .slice A y.ch.args.length c, .int .i64 y.ch.env, .int .i64 y.ch.id, .int .i64 y.ch.pc, .int .i64 y.ch.cut, .int .i64 y.ch.mark, .int .i64 y.ch.top, .int .i64 y.ch.envs, .slice A' y.ch.alts.length c', .int .i64 y.ch.data] ∧ ChR w y.ch A c A' c' := by
  obtain ⟨ys, n', hn', hy, hl, hyl, hf⟩ := DataW.trod_struct Try.underlying40 h
  match cs, hlen with
  | [c0, c1, c2, c3, c4, c5, c6, c7, c8, c9, c10, c11, c12, c13, c14, c15, c16], _ =>
    have hC2 : Try.prog.cellsOf 2 = 1 := by kernel_rfl
    have hC3 : Try.prog.cellsOf 3 = 1 := by kernel_rfl
    have hC38 : Try.prog.cellsOf 38 = 2 := by kernel_rfl
    have hC29 : Try.prog.cellsOf 29 = 11 := by kernel_rfl
    have f0 := hf 0 _ rfl
    have f1 := hf 1 _ rfl
    have f2 := hf 2 _ rfl
    have f3 := hf 3 _ rfl
    have f4 := hf 4 _ rfl
    have f5 := hf 5 _ rfl
    match ys, hyl with
    | [y0, y1, y2, y3, y4, y5], _ =>
      have hs : ∀ (j : Nat) (t : TypeId) (y : DataW H × List MemPlace), [3, 3, 2, 3, 38, 29][j]? = some t → [y0, y1, y2, y3, y4, y5][j]? = some y → ∀ m ∈ y.1.weights Try.prog t, m ≤ reachBytes := fun j t y ht hy' m hm => hsz m (by
        rw [hy]
        simp only [DataW.weights, Try.underlying40]
        exact DataW.weights_mem_each (j := j) ht (by rw [List.getElem?_map, hy']; rfl) m hm)
      obtain ⟨z0, e0, -, -⟩ := DataW.trod_int Try.underlying3 (x := y0) (by simpa [hC2, hC3, hC29, hC38] using f0)
      obtain ⟨z1, e1, -, -⟩ := DataW.trod_int Try.underlying3 (x := y1) (by simpa [hC2, hC3, hC29, hC38] using f1)
      obtain ⟨z2, e2, -, -⟩ := DataW.trod_int Try.underlying2 (x := y2) (by simpa [hC2, hC3, hC29, hC38] using f2)
      obtain ⟨z3, e3, -, -⟩ := DataW.trod_int Try.underlying3 (x := y3) (by simpa [hC2, hC3, hC29, hC38] using f3)
      obtain ⟨z4, e4⟩ := cl_open (x := y4) (cs := [c4, c5]) rfl (by simpa [hC2, hC3, hC29, hC38] using f4)
      obtain ⟨z5, A5, a5, B5, b5, e5, r5⟩ := ch_open (x := y5) (cs := [c6, c7, c8, c9, c10, c11, c12, c13, c14, c15, c16]) rfl (by simpa [hC2, hC3, hC29, hC38] using f5) (hs 5 29 y5 rfl rfl)
      simp only [List.cons.injEq, and_true] at e0 e1 e2 e3 e4 e5
      obtain ⟨e4_0, e4_1⟩ := e4
      obtain ⟨e5_0, e5_1, e5_2, e5_3, e5_4, e5_5, e5_6, e5_7, e5_8, e5_9, e5_10⟩ := e5
      subst e0 e1 e2 e3 e4_0 e4_1 e5_0 e5_1 e5_2 e5_3 e5_4 e5_5 e5_6 e5_7 e5_8 e5_9 e5_10
      exact ⟨⟨z0, z1, z2, z3, z4, z5⟩, _, _, _, _, rfl, r5⟩
/-- a row of calls -/
def StepAt (w : World) (b o : Nat) (y : Sp) : Prop := ∃ (A : Option Addr) (c : Nat) (A' : Option Addr) (c' : Nat), (∀ j v, ([.int .i64 y.what, .int .i64 y.n, .int .i64 y.id, .int .i64 y.pc, .int .i64 y.c.tag, .int .i64 y.c.n, .int .i64 y.ch.kind, .slice A y.ch.args.length c, .int .i64 y.ch.env, .int .i64 y.ch.id, .int .i64 y.ch.pc, .int .i64 y.ch.cut, .int .i64 y.ch.mark, .int .i64 y.ch.top, .int .i64 y.ch.envs, .slice A' y.ch.alts.length c', .int .i64 y.ch.data] : List Value)[j]? = some v → w.cell? ⟨b, o + j, none⟩ = some v) ∧ ChR w y.ch A c A' c'
def StepsAt (w : World) (A : Option Addr) (l : List Sp) : Prop := 0 < l.length → ∃ b off, A = some ⟨b, off, none⟩ ∧ b < w.heap.size ∧ ∀ i y, l[i]? = some y → StepAt w b (off + i * 17) y
theorem ChR.next {w w' : World} {x : Ch} {A A' : Option Addr} {c c' : Nat} (h : ChR w x A c A' c') (hb : Below w.heap.size w w') : ChR w' x A c A' c' := ⟨h.1, h.2.1, h.2.2.1, h.2.2.2.1, h.2.2.2.2.1.next hb, h.2.2.2.2.2.next hb⟩
theorem StepsAt.next {w w' : World} {A : Option Addr} {l : List Sp} (h : StepsAt w A l) (hb : Below w.heap.size w w') : StepsAt w' A l := fun hn => by
  obtain ⟨b, off, e, hlt, hc⟩ := h hn
  refine ⟨b, off, e, Nat.lt_of_lt_of_le hlt hb.size, fun i y hy => ?_⟩
  obtain ⟨A1, c1, A2, c2, h1, h2⟩ := hc i y hy
  exact ⟨A1, c1, A2, c2, fun j v hv => (hb.cell (p := ⟨b, _, none⟩) hlt).trans (h1 j v hv), h2.next hb⟩
theorem steps_val {v : Value} {b0 : Nat} {r : Reach} {d : DataW H} {ps : List MemPlace} (hv : Value.okWide Try.prog w r b0 30 v) (h : DataW.Trod enc Try.prog w base (fun _ => true) held 30 v d ps)
    (hsz : ∀ n ∈ d.weights Try.prog 30, n ≤ reachBytes) : ∃ (A : Option Addr) (c : Nat) (l : List Sp), v = .slice A l.length c ∧ l.length ≤ 10000000000000 ∧ StepsAt w A l := by
  obtain ⟨a0, len, cap, rfl⟩ := okWide_slice Try.underlying30 hv
  obtain ⟨fuel, hf⟩ := h
  obtain ⟨A, c, l, e, -, hb, hr, -⟩ := row_rel (fun (y : Sp) es => ∃ (A : Option Addr) (c : Nat) (A' : Option Addr) (c' : Nat), es = [.int .i64 y.what, .int .i64 y.n, .int .i64 y.id, .int .i64 y.pc, .int .i64 y.c.tag, .int .i64 y.c.n, .int .i64 y.ch.kind, .slice A y.ch.args.length c, .int .i64 y.ch.env, .int .i64 y.ch.id, .int .i64 y.ch.pc, .int .i64 y.ch.cut, .int .i64 y.ch.mark, .int .i64 y.ch.top, .int .i64 y.ch.envs, .slice A' y.ch.alts.length c', .int .i64 y.ch.data] ∧ ChR w y.ch A c A' c') Try.underlying30 (k := 17) (b := 168) (by kernel_rfl) (by omega) (by kernel_rfl) (fun hl hx hs => step_open hl hx hs) hf hsz
  simp only [Value.cells, List.cons.injEq, and_true] at e
  refine ⟨A, c, l, e, by simp only [reachBytes] at hb; omega, fun hn => ?_⟩
  obtain ⟨ab, ao, e, hlt, ha⟩ := hr hn
  exact ⟨ab, ao, e, hlt, fun i y hy => by
    obtain ⟨es, ⟨A1, c1, A2, c2, rfl, h1⟩, hes⟩ := ha i y hy
    exact ⟨A1, c1, A2, c2, hes, h1⟩⟩
theorem st_val {v : Value} {b0 : Nat} {r : Reach} {d : DataW H} {ps : List MemPlace} (hv : Value.okWide Try.prog w r b0 25 v) (h : DataW.Trod enc Try.prog w base (fun _ => true) held 25 v d ps)
    (hsz : ∀ n ∈ d.weights Try.prog 25, n ≤ reachBytes) : ∃ (s : St) (A : Option Addr) (c : Nat) (A' : Option Addr) (c' : Nat), v = stV s A c A' c' ∧ StIn w A c A' c' s := by
  obtain ⟨cs, rfl, hcs⟩ := okWide_struct Try.underlying25 hv
  have hC : Try.prog.cellsOf 25 = 3 := by kernel_rfl
  rw [hC] at hcs
  obtain ⟨fuel, hf⟩ := h
  obtain ⟨s, A, c, A', c', e, hs⟩ := st_open (cs := cs.toList) (by simpa using hcs) (by simpa [Value.cells] using hf) hsz
  refine ⟨s, A, c, A', c', ?_, hs⟩
  obtain ⟨cl⟩ := cs
  simp only at e
  subst e
  rfl
theorem ch_val {v : Value} {b0 : Nat} {r : Reach} {d : DataW H} {ps : List MemPlace} (hv : Value.okWide Try.prog w r b0 29 v) (h : DataW.Trod enc Try.prog w base (fun _ => true) held 29 v d ps)
    (hsz : ∀ n ∈ d.weights Try.prog 29, n ≤ reachBytes) : ∃ (x : Ch) (A : Option Addr) (c : Nat) (A' : Option Addr) (c' : Nat), v = chV x (.slice A x.args.length c, .slice A' x.alts.length c') ∧ ChR w x A c A' c' := by
  obtain ⟨cs, rfl, hcs⟩ := okWide_struct Try.underlying29 hv
  have hC : Try.prog.cellsOf 29 = 11 := by kernel_rfl
  rw [hC] at hcs
  obtain ⟨fuel, hf⟩ := h
  obtain ⟨x, A, c, A', c', e, hs⟩ := ch_open (cs := cs.toList) (by simpa using hcs) (by simpa [Value.cells] using hf) hsz
  refine ⟨x, A, c, A', c', ?_, hs⟩
  obtain ⟨cl⟩ := cs
  simp only at e
  subst e
  rfl
theorem cl_val {v : Value} {b0 : Nat} {r : Reach} {d : DataW H} {ps : List MemPlace} (hv : Value.okWide Try.prog w r b0 38 v) (h : DataW.Trod enc Try.prog w base (fun _ => true) held 38 v d ps) :
    ∃ x : Cl, v = x.v := by
  obtain ⟨cs, rfl, hcs⟩ := okWide_struct Try.underlying38 hv
  have hC : Try.prog.cellsOf 38 = 2 := by kernel_rfl
  rw [hC] at hcs
  obtain ⟨fuel, hf⟩ := h
  obtain ⟨x, e⟩ := cl_open (cs := cs.toList) (by simpa using hcs) (by simpa [Value.cells] using hf)
  refine ⟨x, ?_⟩
  obtain ⟨cl⟩ := cs
  simp only at e
  subst e
  rfl
theorem int_val {v : Value} {b0 : Nat} {r : Reach} {sp : Nat → Bool} {d : DataW H} {ps : List MemPlace} (hv : Value.okWide Try.prog w r b0 3 v) (h : DataW.Trod enc Try.prog w base sp held 3 v d ps) :
    ∃ n : Int, v = .int .i64 n ∧ -9223372036854775808 ≤ n ∧ n ≤ 9223372036854775807 := by
  obtain ⟨n, rfl⟩ := okWide_int Try.underlying3 hv
  obtain ⟨fuel, hf⟩ := h
  obtain ⟨m, e, -, hw⟩ := DataW.trod_int Try.underlying3 hf
  simp only [Value.cells, List.cons.injEq, and_true] at e
  injection e with _ e
  subst e
  simp only [Lit.wf, IntKind.min, IntKind.max, IntKind.signed, IntKind.bits, Bool.and_eq_true] at hw
  exact ⟨n, rfl, by have := hw.1; simp at this; omega, by have := hw.2; simp at this; omega⟩
end
end Go.Proofs.Ytpkpffnabcgcbaa
