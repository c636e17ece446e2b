/-
  Arguments opened: an index.
-/
import Derived.Test.YtpkpdjekoghkcaaOp
import Derived.OpenShut
namespace Go.Proofs.Ytpkpdjekoghkcaa
open Go.ChangeShapes Go.WideShapes Go.Deep Go.RowKit

theorem weightsAll_mem {H : Type} {P : Program} {e : TypeId} : ∀ {l : List (DataW H)} {d : DataW H}, d ∈ l → ∀ n ∈ d.weights P e, n ∈ DataW.weightsAll P e l
  | d0 :: r, d, hd, n, hn => by
    simp only [DataW.weightsAll, List.mem_append]
    rcases List.mem_cons.1 hd with rfl | hd
    · exact .inl hn
    · exact .inr (weightsAll_mem hd n hn)
  | [], _, hd, _, _ => by simp at hd

section
variable {H : Type} {enc : TypeId × Value → H} {w : World} {base : Nat} {held : Bool}
theorem plain_of_first {a : Addr} {k : Nat} {cs : List Value} (hk : 0 < k) (hc : w.cells? base (a.add (0 * k)) k = some cs) : a.spot = none ∧ a.block < w.heap.size := by
  obtain ⟨_, hcl, hat⟩ := World.cells?_some hc
  have h0 := hat 0 hk
  have e : (a.add (0 * k)).add 0 = a := by simp [Addr.add]
  rw [e, List.getElem?_eq_getElem (by omega)] at h0
  exact addr_plain h0
theorem ints_open {cs : List Value} {n : Nat} {x : DataW H × List MemPlace} (h : DataW.trod enc Try.prog w base (fun _ => true) held n 23 cs = some x)
    (hsz : ∀ m ∈ x.1.weights Try.prog 23, m ≤ reachBytes) : ∃ (A : Option Addr) (c : Nat) (l : List Int), cs = [.slice A l.length c] ∧ IntsAt w w.heap.size A l.length l := by
  have hC : Try.prog.cellsOf 3 = 1 := by kernel_rfl
  have hB : Try.prog.bytesOf 3 = 8 := by kernel_rfl
  rcases open_slice Try.underlying23 h with ⟨rfl, rfl⟩ | ⟨a, len, cap, m, n, D, Pl, rfl, hb, hl, hm, hmm, rfl, hi⟩
  · exact ⟨none, 0, [], rfl, ⟨rfl, by simp⟩, fun h => absurd h (by simp)⟩
  · simp only [if_true] at hmm
    subst hmm
    have hw := hsz _ (by simp only [DataW.weights, Try.underlying23]; exact List.mem_cons_self)
    simp only [List.length_map, List.length_range, hB, reachBytes] at hw
    rcases Nat.eq_zero_or_pos len with rfl | hpos
    · exact ⟨some a, m, [], rfl, ⟨rfl, by simp⟩, fun h => absurd h (by simp)⟩
    obtain ⟨cs', hc, ht'⟩ := hi 0 (by omega)
    rw [hC] at hc
    obtain ⟨hs, hlt⟩ := plain_of_first (by omega) hc
    clear hc ht'
    obtain ⟨ab, ao, asp⟩ := a
    simp only at hs hlt
    subst hs
    obtain ⟨l, hk, hp⟩ := list_of (P := fun i (z : Int) => w.cell? ⟨ab, ao + i, none⟩ = some (.int .i64 z)) len fun i him => by
      obtain ⟨cs', hc, ht'⟩ := hi i (by omega)
      rw [hC] at hc
      obtain ⟨_, hcl, hat⟩ := World.cells?_some hc
      obtain ⟨z, rfl, -, -⟩ := DataW.trod_int Try.underlying3 ht'
      have h0 := hat 0 (by omega)
      simp only [add_plain] at h0
      exact ⟨z, by simpa using h0⟩
    subst hk
    exact ⟨some ⟨ab, ao, none⟩, m, l, rfl, ⟨rfl, by omega⟩, fun _ => ⟨ab, ao, rfl, hlt, hp⟩⟩
theorem row_open {cs : List Value} {n : Nat} {x : DataW H × List MemPlace} (hlen : cs.length = 5) (h : DataW.trod enc Try.prog w base (fun _ => true) held n 62 cs = some x)
    (hsz : ∀ m ∈ x.1.weights Try.prog 62, m ≤ reachBytes) : ∃ (r : K × List Int) (A : Option Addr) (c : Nat), cs = [.int .i64 r.1.kind, .int .i64 r.1.n, .string r.1.name, .int .i64 r.1.ar, .slice A r.2.length c] ∧ IntsAt w w.heap.size A r.2.length r.2 := by
  obtain ⟨ys, n', hn', rfl, hl, hyl, hf⟩ := DataW.trod_struct Try.underlying62 h
  match cs, hlen with
  | [c0, c1, c2, c3, c4], _ =>
    have hC35 : Try.prog.cellsOf 35 = 4 := by kernel_rfl
    have hC23 : Try.prog.cellsOf 23 = 1 := by kernel_rfl
    have f0 := hf 0 _ rfl
    have f1 := hf 1 _ rfl
    match ys, hyl with
    | [y0, y1], _ =>
      obtain ⟨k, e0⟩ := key_open (x := y0) (cs := [c0, c1, c2, c3]) rfl (by simpa [hC35] using f0)
      obtain ⟨A, c, l, e1, hl'⟩ := ints_open (x := y1) (cs := [c4]) (by simpa [hC23] using f1) (fun m hm => hsz m (by
        simp only [DataW.weights, Try.underlying62]
        exact DataW.weights_mem_each (j := 1) rfl rfl m hm))
      simp only [List.cons.injEq, and_true] at e0 e1
      obtain ⟨rfl, rfl, rfl, rfl⟩ := e0
      subst e1
      exact ⟨(k, l), A, c, rfl, hl'⟩
theorem rows_open {cs : List Value} {n : Nat} {x : DataW H × List MemPlace} (h : DataW.trod enc Try.prog w base (fun _ => true) held n 24 cs = some x)
    (hsz : ∀ m ∈ x.1.weights Try.prog 24, m ≤ reachBytes) : ∃ (A : Option Addr) (c : Nat) (l : List (K × List Int)), cs = [.slice A l.length c] ∧ RowsAt w w.heap.size A l.length l := by
  have hC : Try.prog.cellsOf 62 = 5 := by kernel_rfl
  have hB : Try.prog.bytesOf 62 = 64 := by kernel_rfl
  rcases open_slice Try.underlying24 h with ⟨rfl, rfl⟩ | ⟨a, len, cap, m, n, D, Pl, rfl, hb, hl, hm, hmm, rfl, hi⟩
  · exact ⟨none, 0, [], rfl, ⟨rfl, by simp⟩, fun h => absurd h (by simp)⟩
  · simp only [if_true] at hmm
    subst hmm
    have hw := hsz _ (by simp only [DataW.weights, Try.underlying24]; exact List.mem_cons_self)
    simp only [List.length_map, List.length_range, hB, reachBytes] at hw
    rcases Nat.eq_zero_or_pos len with rfl | hpos
    · exact ⟨some a, m, [], rfl, ⟨rfl, by simp⟩, fun h => absurd h (by simp)⟩
    obtain ⟨cs', hc, ht'⟩ := hi 0 (by omega)
    rw [hC] at hc
    obtain ⟨hs, hlt⟩ := plain_of_first (by omega) hc
    clear hc ht'
    obtain ⟨ab, ao, asp⟩ := a
    simp only at hs hlt
    subst hs
    obtain ⟨l, hk, hp⟩ := list_of (P := fun i (r : K × List Int) => RowCells w w.heap.size ab (ao + i * 5) r) len fun i him => by
      obtain ⟨cs', hc, ht'⟩ := hi i (by omega)
      rw [hC] at hc
      obtain ⟨_, hcl, hat⟩ := World.cells?_some hc
      obtain ⟨r, A, c, rfl, hr⟩ := row_open hcl ht' (fun q hq => hsz q (by
        simp only [DataW.weights, Try.underlying24]
        refine List.mem_cons_of_mem _ (List.mem_append_left _ (weightsAll_mem (List.mem_map.2 ⟨i, List.mem_range.2 him, rfl⟩) q hq))))
      have h0 := hat 0 (by omega)
      have h1 := hat 1 (by omega)
      have h2 := hat 2 (by omega)
      have h3 := hat 3 (by omega)
      have h4 := hat 4 (by omega)
      simp only [add_plain] at h0 h1 h2 h3 h4
      exact ⟨r, ⟨by simpa using h0, by simpa using h1, by simpa using h2, by simpa using h3⟩, A, c, by simpa using h4, hr⟩
    subst hk
    exact ⟨some ⟨ab, ao, none⟩, m, l, rfl, ⟨rfl, by omega⟩, fun _ => ⟨ab, ao, rfl, hlt, hp⟩⟩
theorem ix_open {v : Value} {b0 : Nat} {r : Reach} {d : DataW H} {ps : List MemPlace} (hv : Value.okWide Try.prog w r b0 26 v) (h : DataW.Trod enc Try.prog w base (fun _ => true) held 26 v d ps)
    (hsz : ∀ n ∈ d.weights Try.prog 26, n ≤ reachBytes) : ∃ x : Ix, IxAt w w.heap.size v x := by
  obtain ⟨cs, rfl, hcs⟩ := okWide_struct Try.underlying26 hv
  have hC : Try.prog.cellsOf 26 = 3 := by kernel_rfl
  rw [hC] at hcs
  obtain ⟨fuel, hf⟩ := h
  obtain ⟨ys, n', hn', hx, hl, hyl, hfs⟩ := DataW.trod_struct Try.underlying26 hf
  simp only [Prod.mk.injEq] at hx
  obtain ⟨rfl, -⟩ := hx
  obtain ⟨cl⟩ := cs
  have hC23 : Try.prog.cellsOf 23 = 1 := by kernel_rfl
  have hC24 : Try.prog.cellsOf 24 = 1 := by kernel_rfl
  have f0 := hfs 0 _ rfl
  have f1 := hfs 1 _ rfl
  have f2 := hfs 2 _ rfl
  match cl, hcs with
  | [c0, c1, c2], _ =>
    match ys, hyl with
    | [y0, y1, y2], _ =>
      have hs : ∀ (j : Nat) (t : TypeId) (y : DataW H × List MemPlace), [23, 24, 23][j]? = some t → [y0, y1, y2][j]? = some y → ∀ m ∈ y.1.weights Try.prog t, m ≤ reachBytes := fun j t y ht hy m hm => hsz m (by
        simp only [DataW.weights, Try.underlying26]
        exact DataW.weights_mem_each (j := j) ht (by rw [List.getElem?_map, hy]; rfl) m hm)
      obtain ⟨A0, e0, l0, q0, h0⟩ := ints_open (x := y0) (cs := [c0]) (by simpa [hC23, Value.cells] using f0) (hs 0 23 y0 rfl rfl)
      obtain ⟨A1, e1, l1, q1, h1⟩ := rows_open (x := y1) (cs := [c1]) (by simpa [hC24, Value.cells] using f1) (hs 1 24 y1 rfl rfl)
      obtain ⟨A2, e2, l2, q2, h2⟩ := ints_open (x := y2) (cs := [c2]) (by simpa [hC23, Value.cells] using f2) (hs 2 23 y2 rfl rfl)
      simp only [List.cons.injEq, and_true] at q0 q1 q2
      subst q0 q1 q2
      exact ⟨⟨l0, l1, l2⟩, A0, e0, A1, e1, A2, e2, rfl, h0, h1, h2⟩
theorem key_val {v : Value} {b0 : Nat} {r : Reach} {sp : Nat → Bool} {d : DataW H} {ps : List MemPlace} (hv : Value.okWide Try.prog w r b0 35 v) (h : DataW.Trod enc Try.prog w base sp held 35 v d ps) :
    ∃ k : K, v = k.v := by
  obtain ⟨cs, rfl, hcs⟩ := okWide_struct Try.underlying35 hv
  have hC : Try.prog.cellsOf 35 = 4 := by kernel_rfl
  rw [hC] at hcs
  obtain ⟨fuel, hf⟩ := h
  obtain ⟨k, hk⟩ := key_open (cs := cs.toList) (by simpa using hcs) (by simpa [Value.cells] using hf)
  refine ⟨k, ?_⟩
  obtain ⟨cl⟩ := cs
  simp only at hk
  subst hk
  rfl
end
/-- what the arguments read as, behind a call that left what was there as it was -/
theorem trodAll_below {H : Type} {enc : TypeId × Value → H} {P : Program} (hl : laidOutB P = true) {W W' : World} (hb : Below W.heap.size W W') :
    ∀ {ts : List TypeId} {vs : List Value} {ds : List (DataW H)} {ps : List MemPlace}, (ts.all fun t => P.readableRec t && decide (t < P.types.size)) = true → (∀ x ∈ ps, x.block < W.heap.size) →
      DataW.TrodAll enc P W 0 (fun _ => true) true ts vs ds ps → DataW.TrodAll enc P W' 0 (fun b => decide (b < W.heap.size)) true ts vs ds ps
  | [], [], [], _, _, _, h => h
  | t :: ts, _ :: _, _ :: _, _, hts, hlt, ⟨p, q, h1, h2, e⟩ => by
    simp only [List.all_cons, Bool.and_eq_true, decide_eq_true_eq] at hts
    exact ⟨p, q, Below.trod hl hts.1.1 hts.1.2 h1 hb (fun x hx => hlt x (by rw [e]; exact List.mem_append_left _ hx)),
      trodAll_below hl hb hts.2 (fun x hx => hlt x (by rw [e]; exact List.mem_append_right _ hx)) h2, e⟩
end Go.Proofs.Ytpkpdjekoghkcaa
