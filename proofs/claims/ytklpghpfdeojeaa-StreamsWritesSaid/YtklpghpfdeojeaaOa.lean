/-
  Arguments opened: a state, a call, rows of calls, of bools and of strings; single values.
-/
import Derived.Test.YtklpghpfdeojeaaOp
import Derived.Test.YtklpghpfdeojeaaYa
import Derived.OpenShut
namespace Go.Proofs.Ytklpghpfdeojeaa
open Go.ChangeShapes Go.WideShapes Go.Deep Go.RowKit

section
variable {H : Type} {enc : TypeId × Value → H} {w : World} {base : Nat} {held : Bool}
theorem plain_of_first {a : Addr} {k : Nat} {cs : List Value} (hk : 0 < k) (hc : w.cells? base (a.add (0 * k)) k = some cs) : a.spot = none ∧ a.block < w.heap.size := by
  obtain ⟨_, hcl, hat⟩ := World.cells?_some hc
  have h0 := hat 0 hk
  have e : (a.add (0 * k)).add 0 = a := by simp [Addr.add]
  rw [e, List.getElem?_eq_getElem (by omega)] at h0
  exact addr_plain h0
/-- a row in memory -/
def RowAt {α : Type} (w : World) (B k : Nat) (P : α → List Value) (A : Option Addr) (l : List α) : Prop :=
  0 < l.length → ∃ ab ao, A = some ⟨ab, ao, none⟩ ∧ ab < B ∧ ∀ i y, l[i]? = some y → ∀ j v, (P y)[j]? = some v → w.cell? ⟨ab, ao + i * k + j, none⟩ = some v
theorem row_cs {α : Type} {t e : TypeId} {k b : Nat} (Q : α → List Value) (ht : Try.prog.underlying t = some (.slice e)) (hC : Try.prog.cellsOf e = k) (hk : 0 < k) (hB : Try.prog.bytesOf e = b)
    (ho : ∀ {cs : List Value} {n : Nat} {x : DataW H × List MemPlace}, cs.length = k → DataW.trod enc Try.prog w base (fun _ => true) held n e cs = some x → ∃ y, cs = Q y)
    {cs : List Value} {n : Nat} {x : DataW H × List MemPlace} (h : DataW.trod enc Try.prog w base (fun _ => true) held n t cs = some x)
    (hsz : ∀ m ∈ x.1.weights Try.prog t, m ≤ reachBytes) :
    ∃ (A : Option Addr) (c : Nat) (l : List α), cs = [.slice A l.length c] ∧ CapOk A l.length c ∧ l.length * b ≤ reachBytes ∧ RowAt w w.heap.size k Q A l := by
  rcases open_slice ht h with ⟨rfl, rfl⟩ | ⟨a, len, cap, m, n, D, Pl, rfl, hb, hl, hm, hmm, rfl, hi⟩
  · exact ⟨none, 0, [], rfl, ⟨Nat.le_refl _, fun _ => rfl⟩, by simp, fun h => absurd h (by simp)⟩
  · simp only [if_true] at hmm
    subst hmm
    have hw := hsz _ (by simp only [DataW.weights, ht]; exact List.mem_cons_self)
    simp only [List.length_map, List.length_range, hB] at hw
    have hlb : len * b ≤ reachBytes := by
      refine Nat.le_trans ?_ hw
      first | exact Nat.mul_le_mul_right _ (by omega) | (rw [Nat.mul_comm]; exact Nat.mul_le_mul_left _ (by omega))
    rcases Nat.eq_zero_or_pos len with rfl | hpos
    · exact ⟨some a, m, [], rfl, ⟨by simp, fun h => by cases h⟩, by simp, fun h => absurd h (by simp)⟩
    obtain ⟨cs', hc, ht'⟩ := hi 0 (by omega)
    rw [hC] at hc
    obtain ⟨hs, hlt⟩ := plain_of_first hk hc
    clear hc ht'
    obtain ⟨ab, ao, asp⟩ := a
    simp only at hs hlt
    subst hs
    obtain ⟨l, hk', hp⟩ := list_of (P := fun i (y : α) => ∀ j v, (Q y)[j]? = some v → w.cell? ⟨ab, ao + i * k + j, none⟩ = some v) len fun i him => by
      obtain ⟨cs', hc, ht'⟩ := hi i (by omega)
      rw [hC] at hc
      obtain ⟨_, hcl, hat⟩ := World.cells?_some hc
      obtain ⟨y, rfl⟩ := ho hcl ht'
      refine ⟨y, fun j v hv => ?_⟩
      have hj : j < k := by
        have := (List.getElem?_eq_some_iff.1 hv).1
        omega
      have hq := hat j hj
      simp only [add_plain] at hq
      rw [hq, hv]
    subst hk'
    exact ⟨some ⟨ab, ao, none⟩, m, l, rfl, ⟨by omega, fun h => by cases h⟩, hlb, fun _ => ⟨ab, ao, rfl, hlt, hp⟩⟩
theorem stream_open {cs : List Value} {n : Nat} {x : DataW H × List MemPlace} (hlen : cs.length = 7) (h : DataW.trod enc Try.prog w base (fun _ => true) held n 52 cs = some x) :
    ∃ g : G, cs = [.int .i64 g.id, .string g.file, .int .i64 g.mode, .int .i64 g.pos, .string g.alias_, .int .i64 g.eof, .bool g.past] := by
  obtain ⟨ys, n', hn', hy, hl, hyl, hf⟩ := DataW.trod_struct Try.underlying52 h
  match cs, hlen with
  | [c0, c1, c2, c3, c4, c5, c6], _ =>
    have hC9 : Try.prog.cellsOf 9 = 1 := by kernel_rfl
    have hC3 : Try.prog.cellsOf 3 = 1 := by kernel_rfl
    have hC4 : Try.prog.cellsOf 4 = 1 := by kernel_rfl
    have f0 := hf 0 _ rfl
    have f1 := hf 1 _ rfl
    have f2 := hf 2 _ rfl
    have f3 := hf 3 _ rfl
    have f4 := hf 4 _ rfl
    have f5 := hf 5 _ rfl
    have f6 := hf 6 _ rfl
    match ys, hyl with
    | [y0, y1, y2, y3, y4, y5, y6], _ =>
      obtain ⟨z0, e0, -, -⟩ := DataW.trod_int Try.underlying3 (x := y0) (by simpa [hC9, hC3, hC4] using f0)
      obtain ⟨z1, e1, -, -⟩ := DataW.trod_string Try.underlying9 (x := y1) (by simpa [hC9, hC3, hC4] using f1)
      obtain ⟨z2, e2, -, -⟩ := DataW.trod_int Try.underlying3 (x := y2) (by simpa [hC9, hC3, hC4] using f2)
      obtain ⟨z3, e3, -, -⟩ := DataW.trod_int Try.underlying3 (x := y3) (by simpa [hC9, hC3, hC4] using f3)
      obtain ⟨z4, e4, -, -⟩ := DataW.trod_string Try.underlying9 (x := y4) (by simpa [hC9, hC3, hC4] using f4)
      obtain ⟨z5, e5, -, -⟩ := DataW.trod_int Try.underlying3 (x := y5) (by simpa [hC9, hC3, hC4] using f5)
      obtain ⟨z6, e6, -⟩ := DataW.trod_bool Try.underlying4 (x := y6) (by simpa [hC9, hC3, hC4] using f6)
      simp only [List.cons.injEq, and_true] at e0 e1 e2 e3 e4 e5 e6
      subst e0 e1 e2 e3 e4 e5 e6
      exact ⟨⟨z0, z1, z2, z3, z4, z5, z6⟩, rfl⟩
theorem act_open {cs : List Value} {n : Nat} {sp : Nat → Bool} {x : DataW H × List MemPlace} (hlen : cs.length = 6) (h : DataW.trod enc Try.prog w base sp held n 58 cs = some x) :
    ∃ a : A, cs = [.int .i64 a.what, .int .i64 a.id, .int .i64 a.n, .int .i64 a.eof, .string a.name, .string a.al] := by
  obtain ⟨ys, n', hn', hy, hl, hyl, hf⟩ := DataW.trod_struct Try.underlying58 h
  match cs, hlen with
  | [c0, c1, c2, c3, c4, c5], _ =>
    have hC9 : Try.prog.cellsOf 9 = 1 := by kernel_rfl
    have hC3 : Try.prog.cellsOf 3 = 1 := by kernel_rfl
    have f0 := hf 0 _ rfl
    have f1 := hf 1 _ rfl
    have f2 := hf 2 _ rfl
    have f3 := hf 3 _ rfl
    have f4 := hf 4 _ rfl
    have f5 := hf 5 _ rfl
    match ys, hyl with
    | [y0, y1, y2, y3, y4, y5], _ =>
      obtain ⟨z0, e0, -, -⟩ := DataW.trod_int Try.underlying3 (x := y0) (by simpa [hC9, hC3] using f0)
      obtain ⟨z1, e1, -, -⟩ := DataW.trod_int Try.underlying3 (x := y1) (by simpa [hC9, hC3] using f1)
      obtain ⟨z2, e2, -, -⟩ := DataW.trod_int Try.underlying3 (x := y2) (by simpa [hC9, hC3] using f2)
      obtain ⟨z3, e3, -, -⟩ := DataW.trod_int Try.underlying3 (x := y3) (by simpa [hC9, hC3] using f3)
      obtain ⟨z4, e4, -, -⟩ := DataW.trod_string Try.underlying9 (x := y4) (by simpa [hC9, hC3] using f4)
      obtain ⟨z5, e5, -, -⟩ := DataW.trod_string Try.underlying9 (x := y5) (by simpa [hC9, hC3] using f5)
      simp only [List.cons.injEq, and_true] at e0 e1 e2 e3 e4 e5
      subst e0 e1 e2 e3 e4 e5
      exact ⟨⟨z0, z1, z2, z3, z4, z5⟩, rfl⟩
theorem act_val {v : Value} {b0 : Nat} {r : Reach} {sp : Nat → Bool} {d : DataW H} {ps : List MemPlace} (hv : Value.okWide Try.prog w r b0 58 v) (h : DataW.Trod enc Try.prog w base sp held 58 v d ps) :
    ∃ a : A, v = a.v := by
  obtain ⟨cs, rfl, hcs⟩ := okWide_struct Try.underlying58 hv
  have hC : Try.prog.cellsOf 58 = 6 := by kernel_rfl
  rw [hC] at hcs
  obtain ⟨fuel, hf⟩ := h
  obtain ⟨k, hk⟩ := act_open (cs := cs.toList) (by simpa using hcs) (by simpa [Value.cells] using hf)
  refine ⟨k, ?_⟩
  obtain ⟨cl⟩ := cs
  simp only at hk
  subst hk
  rfl
theorem sm_open {v : Value} {b0 : Nat} {r : Reach} {d : DataW H} {ps : List MemPlace} (hv : Value.okWide Try.prog w r b0 25 v) (h : DataW.Trod enc Try.prog w base (fun _ => true) held 25 v d ps)
    (hsz : ∀ n ∈ d.weights Try.prog 25, n ≤ reachBytes) : ∃ s : Sm, SmAt w w.heap.size v s := by
  obtain ⟨cs, rfl, hcs⟩ := okWide_struct Try.underlying25 hv
  have hC : Try.prog.cellsOf 25 = 5 := by kernel_rfl
  rw [hC] at hcs
  obtain ⟨fuel, hf⟩ := h
  obtain ⟨ys, n', hn', hx, hl, hyl, hfs⟩ := DataW.trod_struct Try.underlying25 hf
  simp only [Prod.mk.injEq] at hx
  obtain ⟨rfl, -⟩ := hx
  obtain ⟨cl⟩ := cs
  have hC22 : Try.prog.cellsOf 22 = 1 := by kernel_rfl
  have hC23 : Try.prog.cellsOf 23 = 1 := by kernel_rfl
  have hC3 : Try.prog.cellsOf 3 = 1 := by kernel_rfl
  have f0 := hfs 0 _ rfl
  have f1 := hfs 1 _ rfl
  have f2 := hfs 2 _ rfl
  have f3 := hfs 3 _ rfl
  have f4 := hfs 4 _ rfl
  match cl, hcs with
  | [c0, c1, c2, c3, c4], _ =>
    match ys, hyl with
    | [y0, y1, y2, y3, y4], _ =>
      have hs : ∀ (j : Nat) (t : TypeId) (y : DataW H × List MemPlace), [22, 23, 3, 3, 3][j]? = some t → [y0, y1, y2, y3, y4][j]? = some y → ∀ m ∈ y.1.weights Try.prog t, m ≤ reachBytes := fun j t y ht hy m hm => hsz m (by
        simp only [DataW.weights, Try.underlying25]
        exact DataW.weights_mem_each (j := j) ht (by rw [List.getElem?_map, hy]; rfl) m hm)
      obtain ⟨A0, e0, l0, q0, k0, b0, h0⟩ := row_cs (fun x : F => [.string x.name, .string x.text]) Try.underlying22 (k := 2) (b := 32) (by kernel_rfl) (by omega) (by kernel_rfl) (fun hl hx => file_open hl hx)
        (x := y0) (cs := [c0]) (by simpa [hC22, hC23, hC3, Value.cells] using f0) (hs 0 22 y0 rfl rfl)
      obtain ⟨A1, e1, l1, q1, k1, b1, h1⟩ := row_cs (fun g : G => [.int .i64 g.id, .string g.file, .int .i64 g.mode, .int .i64 g.pos, .string g.alias_, .int .i64 g.eof, .bool g.past]) Try.underlying23 (k := 7) (b := 72) (by kernel_rfl) (by omega) (by kernel_rfl) (fun hl hx => stream_open hl hx)
        (x := y1) (cs := [c1]) (by simpa [hC22, hC23, hC3, Value.cells] using f1) (hs 1 23 y1 rfl rfl)
      obtain ⟨z2, q2, -, -⟩ := DataW.trod_int Try.underlying3 (x := y2) (by simpa [hC22, hC23, hC3, Value.cells] using f2)
      obtain ⟨z3, q3, -, -⟩ := DataW.trod_int Try.underlying3 (x := y3) (by simpa [hC22, hC23, hC3, Value.cells] using f3)
      obtain ⟨z4, q4, -, -⟩ := DataW.trod_int Try.underlying3 (x := y4) (by simpa [hC22, hC23, hC3, Value.cells] using f4)
      simp only [List.cons.injEq, and_true] at q0 q1 q2 q3 q4
      subst q0 q1 q2 q3 q4
      refine ⟨⟨l0, l1, z2, z3, z4⟩, A0, e0, A1, e1, rfl, ⟨k0, k1⟩, ⟨⟨rfl, by simp only [reachBytes] at b0; show l0.length ≤ _; omega⟩, fun hp => ?_⟩, ⟨⟨rfl, by simp only [reachBytes] at b1; show l1.length ≤ _; omega⟩, fun hp => ?_⟩⟩
      · obtain ⟨ab, ao, e, hlt, hr⟩ := h0 hp
        exact ⟨ab, ao, e, hlt, fun i x hx => ⟨hr i x hx 0 _ rfl, hr i x hx 1 _ rfl⟩⟩
      · obtain ⟨ab, ao, e, hlt, hr⟩ := h1 hp
        exact ⟨ab, ao, e, hlt, fun i x hx => ⟨hr i x hx 0 _ rfl, hr i x hx 1 _ rfl, hr i x hx 2 _ rfl, hr i x hx 3 _ rfl, hr i x hx 4 _ rfl, hr i x hx 5 _ rfl, hr i x hx 6 _ rfl⟩⟩
theorem bool_row {cs : List Value} {n : Nat} {x : DataW H × List MemPlace} (h : DataW.trod enc Try.prog w base (fun _ => true) held n 4 cs = some x) :
    ∃ b : Bool, cs = [.bool b] := by
  obtain ⟨z, e, -⟩ := DataW.trod_bool Try.underlying4 h
  exact ⟨z, e⟩
theorem str_row {cs : List Value} {n : Nat} {x : DataW H × List MemPlace} (h : DataW.trod enc Try.prog w base (fun _ => true) held n 9 cs = some x) :
    ∃ b : ByteArray, cs = [.string b] := by
  obtain ⟨z, e, -, -⟩ := DataW.trod_string Try.underlying9 h
  exact ⟨z, e⟩
theorem acts_val {v : Value} {b0 : Nat} {r : Reach} {d : DataW H} {ps : List MemPlace} (hv : Value.okWide Try.prog w r b0 65 v) (h : DataW.Trod enc Try.prog w base (fun _ => true) held 65 v d ps)
    (hsz : ∀ n ∈ d.weights Try.prog 65, n ≤ reachBytes) : ∃ (A0 : Option Addr) (c : Nat) (l : List A), v = .slice A0 l.length c ∧ l.length * 64 ≤ reachBytes ∧
      RowAt w w.heap.size 6 (fun a : A => [.int .i64 a.what, .int .i64 a.id, .int .i64 a.n, .int .i64 a.eof, .string a.name, .string a.al]) A0 l := by
  obtain ⟨a0, len, cap, rfl⟩ := okWide_slice Try.underlying65 hv
  obtain ⟨fuel, hf⟩ := h
  obtain ⟨A0, c, l, e, -, hb, hr⟩ := row_cs (fun a : A => [.int .i64 a.what, .int .i64 a.id, .int .i64 a.n, .int .i64 a.eof, .string a.name, .string a.al]) Try.underlying65 (k := 6) (b := 64) (by kernel_rfl) (by omega) (by kernel_rfl) (fun hl hx => act_open hl hx) hf hsz
  simp only [Value.cells, List.cons.injEq, and_true] at e
  exact ⟨A0, c, l, e, hb, hr⟩
theorem bools_val {v : Value} {b0 : Nat} {r : Reach} {d : DataW H} {ps : List MemPlace} (hv : Value.okWide Try.prog w r b0 33 v) (h : DataW.Trod enc Try.prog w base (fun _ => true) held 33 v d ps)
    (hsz : ∀ n ∈ d.weights Try.prog 33, n ≤ reachBytes) : ∃ (A0 : Option Addr) (c : Nat) (l : List Bool), v = .slice A0 l.length c ∧ l.length * 1 ≤ reachBytes ∧
      RowAt w w.heap.size 1 (fun b : Bool => [.bool b]) A0 l := by
  obtain ⟨a0, len, cap, rfl⟩ := okWide_slice Try.underlying33 hv
  obtain ⟨fuel, hf⟩ := h
  obtain ⟨A0, c, l, e, -, hb, hr⟩ := row_cs (fun b : Bool => [.bool b]) Try.underlying33 (k := 1) (b := 1) (by kernel_rfl) (by omega) (by kernel_rfl) (fun _ hx => bool_row hx) hf hsz
  simp only [Value.cells, List.cons.injEq, and_true] at e
  exact ⟨A0, c, l, e, hb, hr⟩
theorem strs_val {v : Value} {b0 : Nat} {r : Reach} {d : DataW H} {ps : List MemPlace} (hv : Value.okWide Try.prog w r b0 54 v) (h : DataW.Trod enc Try.prog w base (fun _ => true) held 54 v d ps)
    (hsz : ∀ n ∈ d.weights Try.prog 54, n ≤ reachBytes) : ∃ (A0 : Option Addr) (c : Nat) (l : List ByteArray), v = .slice A0 l.length c ∧ l.length * 16 ≤ reachBytes ∧
      RowAt w w.heap.size 1 (fun b : ByteArray => [.string b]) A0 l := by
  obtain ⟨a0, len, cap, rfl⟩ := okWide_slice Try.underlying54 hv
  obtain ⟨fuel, hf⟩ := h
  obtain ⟨A0, c, l, e, -, hb, hr⟩ := row_cs (fun b : ByteArray => [.string b]) Try.underlying54 (k := 1) (b := 16) (by kernel_rfl) (by omega) (by kernel_rfl) (fun _ hx => str_row hx) hf hsz
  simp only [Value.cells, List.cons.injEq, and_true] at e
  exact ⟨A0, c, l, e, hb, hr⟩
theorem int_val {v : Value} {b0 : Nat} {r : Reach} {sp : Nat → Bool} {d : DataW H} {ps : List MemPlace} (hv : Value.okWide Try.prog w r b0 3 v) (h : DataW.Trod enc Try.prog w base sp held 3 v d ps) :
    ∃ n : Int, v = .int .i64 n ∧ -9223372036854775808 ≤ n ∧ n ≤ 9223372036854775807 := by
  obtain ⟨n, rfl⟩ := okWide_int Try.underlying3 hv
  obtain ⟨fuel, hf⟩ := h
  obtain ⟨m, e, -, hw⟩ := DataW.trod_int Try.underlying3 hf
  simp only [Value.cells, List.cons.injEq, and_true] at e
  injection e with _ e
  subst e
  simp only [Lit.wf, IntKind.min, IntKind.max, IntKind.signed, IntKind.bits, Bool.and_eq_true] at hw
  exact ⟨n, rfl, by have := hw.1; simp at this; omega, by have := hw.2; simp at this; omega⟩
theorem str_val {v : Value} {b0 : Nat} {r : Reach} {sp : Nat → Bool} {d : DataW H} {ps : List MemPlace} (hv : Value.okWide Try.prog w r b0 9 v) (h : DataW.Trod enc Try.prog w base sp held 9 v d ps) :
    ∃ s : ByteArray, v = .string s ∧ s.size ≤ maxLen := by
  obtain ⟨n, rfl⟩ := okWide_string Try.underlying9 hv
  obtain ⟨fuel, hf⟩ := h
  obtain ⟨s, e, -, hw⟩ := DataW.trod_string Try.underlying9 hf
  simp only [Value.cells, List.cons.injEq, and_true] at e
  injection e with e
  subst e
  exact ⟨n, rfl, by simpa using hw⟩
theorem bool_val {v : Value} {b0 : Nat} {r : Reach} (hv : Value.okWide Try.prog w r b0 4 v) : ∃ b : Bool, v = .bool b := okWide_bool Try.underlying4 hv
end
end Go.Proofs.Ytklpghpfdeojeaa
