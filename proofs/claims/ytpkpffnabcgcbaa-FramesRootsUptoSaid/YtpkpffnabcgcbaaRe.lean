/-
  Arguments opened, their bulk told; the proof's parts for UptoSaid.
-/
import Derived.Test.YtpkpffnabcgcbaaOp
import Derived.Test.YtpkpffnabcgcbaaRd
import Derived.Deep.CondSized
namespace Go.Proofs.Ytpkpffnabcgcbaa
open Go.ChangeShapes Go.WideShapes Go.Deep Go.RowKit

section
variable {H : Type} {enc : TypeId × Value → H} {w : World} {base : Nat} {held : Bool}
theorem bulk_sum {α : Type} {f : α → Nat} : ∀ {l : List α} {B : List (DataW H)}, l.length ≤ B.length → (∀ (i : Nat) y, l[i]? = some y → ∃ d, B[i]? = some d ∧ f y ≤ Rows.uptoBulk d) → (l.map f).sum ≤ Rows.uptoBulkAll B
  | [], _, _, _ => by simp
  | y :: l, [], h, _ => by simp at h
  | y :: l, d :: B, h, hp => by
    obtain ⟨d', h1, h2⟩ := hp 0 y rfl
    simp at h1
    subst h1
    have := bulk_sum (f := f) (l := l) (B := B) (by simpa using h) (fun i z hz => by simpa using hp (i + 1) z (by simpa using hz))
    simp only [List.map_cons, List.sum_cons, Rows.uptoBulkAll]
    omega
theorem one_sum {α : Type} : ∀ l : List α, (l.map fun _ => 1).sum = l.length
  | [] => rfl
  | a :: l => by have := one_sum l; simp only [List.map_cons, List.sum_cons, List.length_cons] at this ⊢; omega
theorem bulk_mem {d : DataW H} : ∀ {B : List (DataW H)}, d ∈ B → Rows.uptoBulk d ≤ Rows.uptoBulkAll B
  | b :: B, h => by
    simp only [Rows.uptoBulkAll]
    rcases List.mem_cons.1 h with rfl | h
    · omega
    · have := bulk_mem h
      omega
theorem bulk_agg {l : List (DataW H)} : Rows.uptoBulk (DataW.agg l) = Rows.uptoBulkAll l + 1 := by simp only [Rows.uptoBulk]
/-- a slice's elements, each with the cells that it has -/
theorem row_rel2 {α : Type} {t e : TypeId} {k b : Nat} (R : α → List Value → Prop) (f : α → Nat) (ht : Try.prog.underlying t = some (.slice e)) (hC : Try.prog.cellsOf e = k) (hk : 0 < k) (hB : Try.prog.bytesOf e = b)
    (ho : ∀ {cs : List Value} {n : Nat} {x : DataW H × List MemPlace}, cs.length = k → DataW.trod enc Try.prog w base (fun _ => true) held n e cs = some x → (∀ m ∈ x.1.weights Try.prog e, m ≤ reachBytes) → ∃ y, R y cs ∧ f y ≤ Rows.uptoBulk x.1)
    {cs : List Value} {n : Nat} {x : DataW H × List MemPlace} (h : DataW.trod enc Try.prog w base (fun _ => true) held n t cs = some x)
    (hsz : ∀ m ∈ x.1.weights Try.prog t, m ≤ reachBytes) :
    ∃ (A : Option Addr) (c : Nat) (l : List α), cs = [.slice A l.length c] ∧ CapOk A l.length c ∧ l.length * b ≤ reachBytes ∧
      (0 < l.length → ∃ ab ao, A = some ⟨ab, ao, none⟩ ∧ ab < w.heap.size ∧ ∀ i y, l[i]? = some y → ∃ es, R y es ∧ ∀ j v, es[j]? = some v → w.cell? ⟨ab, ao + i * k + j, none⟩ = some v) ∧ (∀ y ∈ l, ∃ es, R y es) ∧ (l.map f).sum ≤ Rows.uptoBulk x.1 := by
  rcases DataW.trod_slice ht h with ⟨rfl, rfl⟩ | ⟨a, len, m, elems, rest, n1, hfu, rfl, rfl, hb, hl, hm, hlen, hel, hsp, -⟩
  · exact ⟨none, 0, [], rfl, ⟨Nat.le_refl _, fun _ => rfl⟩, by simp, fun h => absurd h (by simp), (fun y hy => by simp at hy), by simp⟩
  · have hrl := (hsp rfl).1
    have hi : ∀ i (him : i < len), ∃ cs', w.cells? base (a.add (i * Try.prog.cellsOf e)) (Try.prog.cellsOf e) = some cs' ∧ DataW.trod enc Try.prog w base (fun _ => true) held n1 e cs' = some (elems[i]'(by omega)) := fun i him => by
      have h1 := hel i him
      rw [List.getElem?_eq_getElem (by omega)] at h1
      cases hcs : w.cells? base (a.add (i * Try.prog.cellsOf e)) (Try.prog.cellsOf e) with
      | none => rw [hcs] at h1; cases h1
      | some cs' => rw [hcs] at h1; exact ⟨cs', rfl, h1⟩
    have hw := hsz _ (by simp only [DataW.weights, ht]; exact List.mem_cons_self)
    simp only [List.length_map, hB] at hw
    have hlb : len * b ≤ reachBytes := by
      refine Nat.le_trans ?_ hw
      first | exact Nat.mul_le_mul_right _ (by omega) | (rw [Nat.mul_comm]; exact Nat.mul_le_mul_left _ (by omega))
    rcases Nat.eq_zero_or_pos len with rfl | hpos
    · exact ⟨some a, m, [], rfl, ⟨by simp, fun h => by cases h⟩, by simp, fun h => absurd h (by simp), (fun y hy => by simp at hy), by simp⟩
    obtain ⟨cs', hc, ht'⟩ := hi 0 (by omega)
    rw [hC] at hc
    obtain ⟨hs, hlt⟩ := plain_of_first hk hc
    clear hc ht'
    obtain ⟨ab, ao, asp⟩ := a
    simp only at hs hlt
    subst hs
    obtain ⟨l, hk', hp⟩ := list_of (P := fun i (y : α) => ∃ es, (R y es ∧ ∀ j v, es[j]? = some v → w.cell? ⟨ab, ao + i * k + j, none⟩ = some v) ∧ ∃ d, (elems.map (·.1))[i]? = some d ∧ f y ≤ Rows.uptoBulk d) len fun i him => by
      obtain ⟨cs', hc, ht'⟩ := hi i (by omega)
      rw [hC] at hc
      obtain ⟨_, hcl, hat⟩ := World.cells?_some hc
      obtain ⟨y, hy⟩ := ho hcl ht' (fun q hq => hsz q (by
        simp only [DataW.weights, ht]
        exact List.mem_cons_of_mem _ (List.mem_append_left _ (weightsAll_mem (List.mem_map.2 ⟨_, List.getElem_mem (by omega : i < elems.length), rfl⟩) q hq))))
      refine ⟨y, cs', ⟨hy.1, fun j v hv => ?_⟩, _, by rw [List.getElem?_map, List.getElem?_eq_getElem (by omega : i < elems.length)]; rfl, hy.2⟩
      have hj : j < k := by
        have := (List.getElem?_eq_some_iff.1 hv).1
        omega
      have hq := hat j hj
      simp only [add_plain'] at hq
      rw [hq, hv]
    subst hk'
    refine ⟨some ⟨ab, ao, none⟩, m, l, rfl, ⟨by omega, fun h => by cases h⟩, hlb, fun _ => ⟨ab, ao, rfl, hlt, fun i y hy => ?_⟩, fun y hy => ?_, ?_⟩
    · obtain ⟨es, h1, -⟩ := hp i y hy
      exact ⟨es, h1⟩
    · obtain ⟨i, hi'⟩ := List.mem_iff_getElem?.1 hy
      obtain ⟨es, ⟨h1, -⟩, -⟩ := hp i y hi'
      exact ⟨es, h1⟩
    · show _ ≤ Rows.uptoBulk (DataW.slice (elems.map (·.1)) (rest.map (·.1)))
      unfold Rows.uptoBulk
      have := bulk_sum (B := elems.map (·.1)) (by rw [List.length_map]; omega) (fun i y hy => (hp i y hy).elim fun _ h => h.2)
      omega
theorem cells_open2 {cs : List Value} {n : Nat} {x : DataW H × List MemPlace} (h : DataW.trod enc Try.prog w base (fun _ => true) held n 26 cs = some x) (hsz : ∀ m ∈ x.1.weights Try.prog 26, m ≤ reachBytes) :
    ∃ (A : Option Addr) (c : Nat) (l : List Cl), cs = [.slice A l.length c] ∧ CapOk A l.length c ∧ l.length ≤ 8796093022208 ∧ CellsAt w A l ∧ l.length ≤ Rows.uptoBulk x.1 := by
  obtain ⟨A, c, l, e, hc, hb, hr, -, hsum⟩ := row_rel2 (fun (y : Cl) es => es = [.int .i64 y.tag, .int .i64 y.n]) (fun _ => 1) Try.underlying26 (k := 2) (b := 16) (by kernel_rfl) (by omega) (by kernel_rfl) (fun hl hx _ => (cl_open hl hx).elim fun y hy => ⟨y, hy, by obtain ⟨ys, n2, -, e2, -⟩ := DataW.trod_struct Try.underlying38 hx; rw [e2, bulk_agg]; omega⟩) h hsz
  refine ⟨A, c, l, e, hc, by simp only [reachBytes] at hb; omega, fun hn => ?_, by rw [one_sum] at hsum; exact hsum⟩
  obtain ⟨ab, ao, e, hlt, ha⟩ := hr hn
  exact ⟨ab, ao, e, hlt, fun i y hy => by
    obtain ⟨es, rfl, hes⟩ := ha i y hy
    exact ⟨hes 0 _ rfl, hes 1 _ rfl⟩⟩
set_option maxHeartbeats 1000000 in
theorem env_open2 {cs : List Value} {n : Nat} {x : DataW H × List MemPlace} (hlen : cs.length = 4) (h : DataW.trod enc Try.prog w base (fun _ => true) held n 54 cs = some x) (hsz : ∀ m ∈ x.1.weights Try.prog 54, m ≤ reachBytes) :
    ∃ y : En, EnR w y cs ∧ y.y.length ≤ Rows.uptoBulk x.1 := by
  obtain ⟨ys, n', hn', hy, hl, hyl, hf⟩ := DataW.trod_struct Try.underlying54 h
  match cs, hlen with
  | [c0, c1, c2, c3], _ =>
    have hC2 : Try.prog.cellsOf 2 = 1 := by kernel_rfl
    have hC3 : Try.prog.cellsOf 3 = 1 := by kernel_rfl
    have hC26 : Try.prog.cellsOf 26 = 1 := by kernel_rfl
    have f0 := hf 0 _ rfl
    have f1 := hf 1 _ rfl
    have f2 := hf 2 _ rfl
    have f3 := hf 3 _ rfl
    match ys, hyl with
    | [y0, y1, y2, y3], _ =>
      have hs : ∀ (j : Nat) (t : TypeId) (y : DataW H × List MemPlace), [3, 2, 3, 26][j]? = some t → [y0, y1, y2, y3][j]? = some y → ∀ m ∈ y.1.weights Try.prog t, m ≤ reachBytes := fun j t y ht hy' m hm => hsz m (by
        rw [hy]
        simp only [DataW.weights, Try.underlying54]
        exact DataW.weights_mem_each (j := j) ht (by rw [List.getElem?_map, hy']; rfl) m hm)
      obtain ⟨z0, e0, -, -⟩ := DataW.trod_int Try.underlying3 (x := y0) (by simpa [hC2, hC3, hC26] using f0)
      obtain ⟨z1, e1, -, -⟩ := DataW.trod_int Try.underlying2 (x := y1) (by simpa [hC2, hC3, hC26] using f1)
      obtain ⟨z2, e2, -, -⟩ := DataW.trod_int Try.underlying3 (x := y2) (by simpa [hC2, hC3, hC26] using f2)
      obtain ⟨A3, a3, z3, e3, k3, b3, r3, s3⟩ := cells_open2 (x := y3) (cs := [c3]) (by simpa [hC2, hC3, hC26] using f3) (hs 3 26 y3 rfl rfl)
      simp only [List.cons.injEq, and_true] at e0 e1 e2 e3
      subst e0 e1 e2 e3
      refine ⟨⟨z0, z1, z2, z3⟩, ⟨_, _, rfl, k3, b3, r3⟩, ?_⟩
      rw [hy]
      show z3.length ≤ Rows.uptoBulk (DataW.agg _)
      rw [bulk_agg]
      have := bulk_mem (d := y3.1) (B := [y0, y1, y2, y3].map (·.1)) (by simp)
      omega
set_option maxHeartbeats 1000000 in
theorem ch_open2 {cs : List Value} {n : Nat} {x : DataW H × List MemPlace} (hlen : cs.length = 11) (h : DataW.trod enc Try.prog w base (fun _ => true) held n 29 cs = some x) (hsz : ∀ m ∈ x.1.weights Try.prog 29, m ≤ reachBytes) :
    ∃ (y : Ch) (A : Option Addr) (c : Nat) (A' : Option Addr) (c' : Nat), cs = [.int .i64 y.kind, .slice A y.args.length c, .int .i64 y.env, .int .i64 y.id, .int .i64 y.pc, .int .i64 y.cut, .int .i64 y.mark, .int .i64 y.top, .int .i64 y.envs, .slice A' y.alts.length c', .int .i64 y.data] ∧ ChR w y A c A' c' ∧ y.args.length ≤ Rows.uptoBulk x.1 := by
  obtain ⟨ys, n', hn', hy, hl, hyl, hf⟩ := DataW.trod_struct Try.underlying29 h
  match cs, hlen with
  | [c0, c1, c2, c3, c4, c5, c6, c7, c8, c9, c10], _ =>
    have hC2 : Try.prog.cellsOf 2 = 1 := by kernel_rfl
    have hC3 : Try.prog.cellsOf 3 = 1 := by kernel_rfl
    have hC26 : Try.prog.cellsOf 26 = 1 := by kernel_rfl
    have hC27 : Try.prog.cellsOf 27 = 1 := by kernel_rfl
    have f0 := hf 0 _ rfl
    have f1 := hf 1 _ rfl
    have f2 := hf 2 _ rfl
    have f3 := hf 3 _ rfl
    have f4 := hf 4 _ rfl
    have f5 := hf 5 _ rfl
    have f6 := hf 6 _ rfl
    have f7 := hf 7 _ rfl
    have f8 := hf 8 _ rfl
    have f9 := hf 9 _ rfl
    have f10 := hf 10 _ rfl
    match ys, hyl with
    | [y0, y1, y2, y3, y4, y5, y6, y7, y8, y9, y10], _ =>
      have hs : ∀ (j : Nat) (t : TypeId) (y : DataW H × List MemPlace), [3, 26, 3, 2, 3, 3, 3, 3, 3, 27, 2][j]? = some t → [y0, y1, y2, y3, y4, y5, y6, y7, y8, y9, y10][j]? = some y → ∀ m ∈ y.1.weights Try.prog t, m ≤ reachBytes := fun j t y ht hy' m hm => hsz m (by
        rw [hy]
        simp only [DataW.weights, Try.underlying29]
        exact DataW.weights_mem_each (j := j) ht (by rw [List.getElem?_map, hy']; rfl) m hm)
      obtain ⟨z0, e0, -, -⟩ := DataW.trod_int Try.underlying3 (x := y0) (by simpa [hC2, hC3, hC26, hC27] using f0)
      obtain ⟨A1, a1, z1, e1, k1, b1, r1, s1⟩ := cells_open2 (x := y1) (cs := [c1]) (by simpa [hC2, hC3, hC26, hC27] using f1) (hs 1 26 y1 rfl rfl)
      obtain ⟨z2, e2, -, -⟩ := DataW.trod_int Try.underlying3 (x := y2) (by simpa [hC2, hC3, hC26, hC27] using f2)
      obtain ⟨z3, e3, -, -⟩ := DataW.trod_int Try.underlying2 (x := y3) (by simpa [hC2, hC3, hC26, hC27] using f3)
      obtain ⟨z4, e4, -, -⟩ := DataW.trod_int Try.underlying3 (x := y4) (by simpa [hC2, hC3, hC26, hC27] using f4)
      obtain ⟨z5, e5, -, -⟩ := DataW.trod_int Try.underlying3 (x := y5) (by simpa [hC2, hC3, hC26, hC27] using f5)
      obtain ⟨z6, e6, -, -⟩ := DataW.trod_int Try.underlying3 (x := y6) (by simpa [hC2, hC3, hC26, hC27] using f6)
      obtain ⟨z7, e7, -, -⟩ := DataW.trod_int Try.underlying3 (x := y7) (by simpa [hC2, hC3, hC26, hC27] using f7)
      obtain ⟨z8, e8, -, -⟩ := DataW.trod_int Try.underlying3 (x := y8) (by simpa [hC2, hC3, hC26, hC27] using f8)
      obtain ⟨A9, a9, z9, e9, k9, b9, r9⟩ := ints_open (x := y9) (cs := [c9]) (by simpa [hC2, hC3, hC26, hC27] using f9) (hs 9 27 y9 rfl rfl)
      obtain ⟨z10, e10, -, -⟩ := DataW.trod_int Try.underlying2 (x := y10) (by simpa [hC2, hC3, hC26, hC27] using f10)
      simp only [List.cons.injEq, and_true] at e0 e1 e2 e3 e4 e5 e6 e7 e8 e9 e10
      subst e0 e1 e2 e3 e4 e5 e6 e7 e8 e9 e10
      refine ⟨⟨z0, z1, z2, z3, z4, z5, z6, z7, z8, z9, z10⟩, _, _, _, _, rfl, ⟨k1, k9, b1, b9, r1, r9⟩, ?_⟩
      rw [hy]
      show z1.length ≤ Rows.uptoBulk (DataW.agg _)
      rw [bulk_agg]
      have := bulk_mem (d := y1.1) (B := [y0, y1, y2, y3, y4, y5, y6, y7, y8, y9, y10].map (·.1)) (by simp)
      omega
theorem envs_open2 {cs : List Value} {n : Nat} {x : DataW H × List MemPlace} (h : DataW.trod enc Try.prog w base (fun _ => true) held n 22 cs = some x) (hsz : ∀ m ∈ x.1.weights Try.prog 22, m ≤ reachBytes) :
    ∃ (A : Option Addr) (c : Nat) (l : List En), cs = [.slice A l.length c] ∧ CapOk A l.length c ∧ l.length ≤ 10000000000000 ∧ EnvsAt w A l ∧ (∀ y ∈ l, y.y.length ≤ 8796093022208) ∧ (l.map fun y => y.y.length).sum ≤ Rows.uptoBulk x.1 := by
  obtain ⟨A, c, l, e, hc, hb, hr, hm, hsum⟩ := row_rel2 (EnR w) (fun y => y.y.length) Try.underlying22 (k := 4) (b := 48) (by kernel_rfl) (by omega) (by kernel_rfl) (fun hl hx hs => env_open2 hl hx hs) h hsz
  refine ⟨A, c, l, e, hc, by simp only [reachBytes] at hb; omega, fun hn => ?_, (fun y hy => by obtain ⟨_, _, _, _, _, h, _⟩ := hm y hy; exact h), hsum⟩
  obtain ⟨ab, ao, e, hlt, ha⟩ := hr hn
  exact ⟨ab, ao, e, hlt, fun i y hy => by
    obtain ⟨es, ⟨A', c', rfl, h1, -, h2⟩, hes⟩ := ha i y hy
    exact ⟨A', c', hes 0 _ rfl, hes 1 _ rfl, hes 2 _ rfl, hes 3 _ rfl, h1, h2⟩⟩
theorem chs_open2 {cs : List Value} {n : Nat} {x : DataW H × List MemPlace} (h : DataW.trod enc Try.prog w base (fun _ => true) held n 23 cs = some x) (hsz : ∀ m ∈ x.1.weights Try.prog 23, m ≤ reachBytes) :
    ∃ (A : Option Addr) (c : Nat) (l : List Ch), cs = [.slice A l.length c] ∧ CapOk A l.length c ∧ l.length ≤ 10000000000000 ∧ ChsAt w A l ∧ (∀ y ∈ l, y.args.length ≤ 8796093022208 ∧ y.alts.length ≤ 17592186044416) ∧ (l.map fun y => y.args.length).sum ≤ Rows.uptoBulk x.1 := by
  obtain ⟨A, c, l, e, hc, hb, hr, hm, hsum⟩ := row_rel2 (fun (y : Ch) es => ∃ (A : Option Addr) (c : Nat) (A' : Option Addr) (c' : Nat), es = [.int .i64 y.kind, .slice A y.args.length c, .int .i64 y.env, .int .i64 y.id, .int .i64 y.pc, .int .i64 y.cut, .int .i64 y.mark, .int .i64 y.top, .int .i64 y.envs, .slice A' y.alts.length c', .int .i64 y.data] ∧ ChR w y A c A' c') (fun y => y.args.length) Try.underlying23 (k := 11) (b := 120) (by kernel_rfl) (by omega) (by kernel_rfl) (fun hl hx hs => by obtain ⟨y, A, c, A2, c2, e, h1, h2⟩ := ch_open2 hl hx hs; exact ⟨y, ⟨A, c, A2, c2, e, h1⟩, h2⟩) h hsz
  refine ⟨A, c, l, e, hc, by simp only [reachBytes] at hb; omega, fun hn => ?_, (fun y hy => by obtain ⟨_, _, _, _, _, _, _, _, h1, h2, _⟩ := hm y hy; exact ⟨h1, h2⟩), hsum⟩
  obtain ⟨ab, ao, e, hlt, ha⟩ := hr hn
  exact ⟨ab, ao, e, hlt, fun i y hy => by
    obtain ⟨es, ⟨A1, c1, A2, c2, rfl, h1, h2, -, -, h3, h4⟩, hes⟩ := ha i y hy
    exact ⟨A1, c1, A2, c2, hes 0 _ rfl, hes 1 _ rfl, hes 2 _ rfl, hes 3 _ rfl, hes 4 _ rfl, hes 5 _ rfl, hes 6 _ rfl, hes 7 _ rfl, hes 8 _ rfl, hes 9 _ rfl, hes 10 _ rfl, h1, h2, h3, h4⟩⟩
set_option maxHeartbeats 1000000 in
theorem st_open2 {cs : List Value} {n : Nat} {x : DataW H × List MemPlace} (hlen : cs.length = 3) (h : DataW.trod enc Try.prog w base (fun _ => true) held n 25 cs = some x) (hsz : ∀ m ∈ x.1.weights Try.prog 25, m ≤ reachBytes) :
    ∃ (s : St) (A : Option Addr) (c : Nat) (A' : Option Addr) (c' : Nat), cs = [.slice A s.envs.length c, .int .i64 s.e, .slice A' s.chs.length c'] ∧ StIn w A c A' c' s ∧ (rootsV s).length ≤ Rows.uptoBulk x.1 := by
  obtain ⟨ys, n', hn', hy, hl, hyl, hf⟩ := DataW.trod_struct Try.underlying25 h
  match cs, hlen with
  | [c0, c1, c2], _ =>
    have hC3 : Try.prog.cellsOf 3 = 1 := by kernel_rfl
    have hC22 : Try.prog.cellsOf 22 = 1 := by kernel_rfl
    have hC23 : Try.prog.cellsOf 23 = 1 := by kernel_rfl
    have f0 := hf 0 _ rfl
    have f1 := hf 1 _ rfl
    have f2 := hf 2 _ rfl
    match ys, hyl with
    | [y0, y1, y2], _ =>
      have hs : ∀ (j : Nat) (t : TypeId) (y : DataW H × List MemPlace), [22, 3, 23][j]? = some t → [y0, y1, y2][j]? = some y → ∀ m ∈ y.1.weights Try.prog t, m ≤ reachBytes := fun j t y ht hy' m hm => hsz m (by
        rw [hy]
        simp only [DataW.weights, Try.underlying25]
        exact DataW.weights_mem_each (j := j) ht (by rw [List.getElem?_map, hy']; rfl) m hm)
      obtain ⟨A0, a0, z0, e0, k0, b0, r0⟩ := envs_open2 (x := y0) (cs := [c0]) (by simpa [hC3, hC22, hC23] using f0) (hs 0 22 y0 rfl rfl)
      obtain ⟨z1, e1, -, -⟩ := DataW.trod_int Try.underlying3 (x := y1) (by simpa [hC3, hC22, hC23] using f1)
      obtain ⟨A2, a2, z2, e2, k2, b2, r2⟩ := chs_open2 (x := y2) (cs := [c2]) (by simpa [hC3, hC22, hC23] using f2) (hs 2 23 y2 rfl rfl)
      simp only [List.cons.injEq, and_true] at e0 e1 e2
      subst e0 e1 e2
      refine ⟨⟨z0, z1, z2⟩, _, _, _, _, rfl, ⟨⟨k0, k2, r0.1, r2.1⟩, b0, b2, fun x hx => Nat.le_trans (r0.2.1 x hx) (by omega), r2.2.1⟩, ?_⟩
      rw [hy]
      show (cellsE z0 ++ cellsH z2).length ≤ Rows.uptoBulk (DataW.agg _)
      rw [bulk_agg, List.length_append]
      have g1 : (cellsE z0).length = (z0.map fun y => y.y.length).sum := by simp [cellsE, List.length_flatMap]
      have g2 : (cellsH z2).length = (z2.map fun y => y.args.length).sum := by simp [cellsH, List.length_flatMap]
      have g3 := r0.2.2
      have g4 := r2.2.2
      show _ ≤ Rows.uptoBulkAll [y0.1, y1.1, y2.1] + 1
      simp only [Rows.uptoBulkAll]
      omega
theorem st_val2 {v : Value} {b0 : Nat} {r : Reach} {d : DataW H} {ps : List MemPlace} (hv : Value.okWide Try.prog w r b0 25 v) (h : DataW.Trod enc Try.prog w base (fun _ => true) held 25 v d ps)
    (hsz : ∀ n ∈ d.weights Try.prog 25, n ≤ reachBytes) : ∃ (s : St) (A : Option Addr) (c : Nat) (A' : Option Addr) (c' : Nat), v = stV s A c A' c' ∧ StIn w A c A' c' s ∧ (rootsV s).length ≤ Rows.uptoBulk d := by
  obtain ⟨cs, rfl, hcs⟩ := okWide_struct Try.underlying25 hv
  have hC : Try.prog.cellsOf 25 = 3 := by kernel_rfl
  rw [hC] at hcs
  obtain ⟨fuel, hf⟩ := h
  obtain ⟨s, A, c, A', c', e, hs⟩ := st_open2 (cs := cs.toList) (by simpa using hcs) (by simpa [Value.cells] using hf) hsz
  refine ⟨s, A, c, A', c', ?_, hs⟩
  obtain ⟨cl⟩ := cs
  simp only at e
  subst e
  rfl
theorem ch_val2 {v : Value} {b0 : Nat} {r : Reach} {d : DataW H} {ps : List MemPlace} (hv : Value.okWide Try.prog w r b0 29 v) (h : DataW.Trod enc Try.prog w base (fun _ => true) held 29 v d ps)
    (hsz : ∀ n ∈ d.weights Try.prog 29, n ≤ reachBytes) : ∃ (x : Ch) (A : Option Addr) (c : Nat) (A' : Option Addr) (c' : Nat), v = chV x (.slice A x.args.length c, .slice A' x.alts.length c') ∧ ChR w x A c A' c' ∧ x.args.length ≤ Rows.uptoBulk d := by
  obtain ⟨cs, rfl, hcs⟩ := okWide_struct Try.underlying29 hv
  have hC : Try.prog.cellsOf 29 = 11 := by kernel_rfl
  rw [hC] at hcs
  obtain ⟨fuel, hf⟩ := h
  obtain ⟨x, A, c, A', c', e, hs⟩ := ch_open2 (cs := cs.toList) (by simpa using hcs) (by simpa [Value.cells] using hf) hsz
  refine ⟨x, A, c, A', c', ?_, hs⟩
  obtain ⟨cl⟩ := cs
  simp only at e
  subst e
  rfl
end
end Go.Proofs.Ytpkpffnabcgcbaa
