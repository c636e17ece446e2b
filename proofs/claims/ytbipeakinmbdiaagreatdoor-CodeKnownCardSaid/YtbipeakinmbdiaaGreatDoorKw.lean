/-
  What all laws of layer 26 share: a world that holds the listed variables, and what the listed variables say; arguments opened. Arguments opened: instructions, rows of instructions, blocks, strings, integers.
-/
import Derived.Test.YtbipeakinmbdiaaGreatDoorKj
import Derived.Test.YtbipeakinmbdiaaGreatDoorRows
import Derived.ProofKit
import Derived.OpenShut
import Derived.Deep.DeepHandedRow
import Derived.Lib.LaidTab
import Derived.Lib.LaidCase
import Derived.Lib.LaidU8T
import Derived.Lay
import Derived.Stop.LaidErr
import Derived.Shelf.Vars
import Derived.Deep.Slices
import Derived.Deep.Fields
import Derived.ChangeSame
import Derived.SizedLaws
import Derived.Carry
import Derived.Test.YtbipeakinmbdiaaGreatDoorKs
namespace Go.Proofs.YtbipeakinmbdiaaGreatDoor
section
open Go.ChangeShapes Go.WideShapes Go.ChangeAt Go.Deep Go.RowKit
theorem own : ownKnob Tryz.prog.godebug = none := by kernel_rfl
theorem laidOut : laidOutB Tryz.prog = true := by kernel_rfl
/-- the listed variables -/
noncomputable def laidL : List (String × DataW Unit) := Rows.codeEqualRow.laid
noncomputable def laidWorld (os : Os) : World := World.laidAll Tryz.prog os laidL
theorem laid_met (os : Os) (args : Array Value) : laidMet Tryz.prog laidL ((laidWorld os).forCall (fun _ _ => 0) ⟨#[], args, []⟩).memory :=
  laidMet_laidAll args (by kernel_rfl) (by kernel_rfl)
theorem laid_shaped (os : Os) (args : Array Value) : ((laidWorld os).forCall (fun _ _ => 0) ⟨#[], args, []⟩).Shaped Tryz.prog :=
  World.shaped_of_ZipB (by kernel_rfl) (by kernel_rfl)
theorem n274 : Lays.n274 Tryz.prog Tryz.lays159_ren := { Tryz.lays159 with }
theorem n260 : Lays.n260 Tryz.prog Tryz.lays159_ren := { Tryz.lays159 with }
theorem caseX : CaseExtra Tryz.prog Tryz.lays159_ren := ⟨by kernel_rfl, by kernel_rfl, by kernel_rfl, by kernel_rfl, by kernel_rfl, by kernel_rfl⟩
theorem u8X : U8Extra Tryz.prog Tryz.lays159_ren := ⟨by kernel_rfl, by kernel_rfl, by kernel_rfl, by kernel_rfl, by kernel_rfl, by kernel_rfl, by kernel_rfl⟩
theorem case_eq : Rows.laid_unicode_CaseRanges = Lib.caseData := by kernel_rfl
theorem first_eq : Rows.laid_unicode_utf8_first = Lib.firstData := by kernel_rfl
theorem acc_eq : Rows.laid_unicode_utf8_acceptRanges (H := Unit) = Lib.acceptData := by kernel_rfl
theorem pow_eq : Rows.laid_internal_strconv_uint64pow10 (H := Unit) = Lib.tabData .u64 Lib.pow10Tab := by kernel_rfl
theorem mem_at {l : List (String × DataW Unit)} (i : Nat) {x : String × DataW Unit} (h : l[i]? = some x) : x ∈ l := List.mem_of_getElem? h
/-- the cells -/
theorem maxLen_some {W : World} (hsh : W.ShapedOpen Tryz.prog) : ∃ m, W.cell? ⟨1, 0, none⟩ = some (.int .i64 m) :=
  cell_of_shapedOpen_int (t := 3) (zero := #[.int .i64 0]) hsh (by decide +kernel) (by kernel_rfl) rfl (by kernel_rfl) (by kernel_rfl) Tryz.underlying3
theorem star : "*" ++ "errors.errorString" = "*errors.errorString" := by decide
theorem row189 (u : TypeId) (h : Tryz.prog.typeName? 3 u = some "*errors.errorString") : u = 189 :=
  typeName_ptr_named (nm := "errors.errorString") (by rw [star]; kernel_rfl) (by kernel_rfl) (by decide) u (by rw [star]; exact h)
theorem sentinel {W : World} {n : String} {text : List UInt8} {g : Nat} (r : List (String × DataW Unit)) (h : laidMet Tryz.prog ((n, .iface "*errors.errorString" (.ptr (.agg [.lit (.string text)]))) :: r) W)
    (hg : Tryz.prog.globalNamed n = some g) (ht : (Tryz.prog.globals[g]?).map (·.type) = some 66) : ∃ tp p, W.var? Tryz.prog n = some #[.iface tp p] := by
  obtain ⟨a, s, h1, _⟩ := laid_sentinel (ti := 66) (tp := 189) (te := 191) (ts := 9) h hg ht Tryz.underlying66 row189 Tryz.underlying189 Tryz.underlying191 rfl rfl (by kernel_rfl) (by kernel_rfl) (by kernel_rfl)
  exact ⟨_, _, h1⟩
theorem gPow : Tryz.prog.globalNamed "internal/strconv.uint64pow10" = some 0 := by kernel_rfl
theorem gPowType : (Tryz.prog.globals[0]?).map (·.type) = some 154 := by kernel_rfl
theorem cells154 : Tryz.prog.cellsOf 154 = 20 := by kernel_rfl
theorem cells133 : Tryz.prog.cellsOf 133 = 1 := by kernel_rfl
theorem gSyn : Tryz.prog.globalNamed "strconv.ErrSyntax" = some 6 := by kernel_rfl
theorem gSynType : (Tryz.prog.globals[6]?).map (·.type) = some 66 := by kernel_rfl
theorem gRng : Tryz.prog.globalNamed "strconv.ErrRange" = some 7 := by kernel_rfl
theorem gRngType : (Tryz.prog.globals[7]?).map (·.type) = some 66 := by kernel_rfl
theorem env_of {W : World} (hL : laidMetH Tryz.prog laidL W) (hsh : W.ShapedOpen Tryz.prog) : Env W := by
  have h0 : laidMet Tryz.prog laidL W := hL
  have h4 : laidMet Tryz.prog (laidL.drop 4) W := h0.tail.tail.tail.tail
  obtain ⟨tq, q, hr⟩ := sentinel _ h4 gRng gRngType
  obtain ⟨tp, p, hs⟩ := sentinel _ h4.tail gSyn gSynType
  refine ⟨?_, ⟨tp, p, hs, ?_⟩, ⟨tq, q, hr⟩, ?_, ?_, maxLen_some hsh⟩
  · obtain ⟨g, t, cs, fuel, p, hg, ht, hvar, hd⟩ := Lib.laidMet.reads h0 (n := "internal/strconv.uint64pow10") (mem_at 2 rfl)
    rw [pow_eq] at hd
    obtain rfl := Option.some.inj (gPow.symm.trans hg)
    obtain rfl := Option.some.inj (gPowType.symm.trans ht)
    unfold Lib.TabIs
    rw [hvar, ← Lib.cells_of_tab Tryz.underlying154 Tryz.underlying133 cells133 cells154 hd]
  · simpa using World.var?_cell gSyn hs 0
  · have h := Lib.laidMet.reads h0 (n := "unicode.CaseRanges") (d := Rows.laid_unicode_CaseRanges) (mem_at 6 rfl)
    rw [case_eq] at h
    exact caseVar_of_reads n274 (by kernel_rfl) caseX h
  · have h1 := Lib.laidMet.reads h0 (n := "unicode/utf8.first") (d := Rows.laid_unicode_utf8_first) (mem_at 7 rfl)
    have h2 := Lib.laidMet.reads h0 (n := "unicode/utf8.acceptRanges") (d := Rows.laid_unicode_utf8_acceptRanges) (mem_at 3 rfl)
    rw [first_eq] at h1
    rw [acc_eq] at h2
    exact utf8Tabs_of_reads n260 u8X h1 h2
end
section
open Go.ChangeShapes Go.WideShapes Go.ChangeAt Go.Deep Go.RowKit

theorem list_of {α : Type} {P : Nat → α → Prop} : ∀ n, (∀ i, i < n → ∃ x, P i x) → ∃ l : List α, l.length = n ∧ ∀ i x, l[i]? = some x → P i x
  | 0, _ => ⟨[], rfl, fun i x h => by simp at h⟩
  | n + 1, h => by
    obtain ⟨l, hl, hp⟩ := list_of n fun i hi => h i (by omega)
    obtain ⟨x, hx⟩ := h n (by omega)
    refine ⟨l ++ [x], by simp [hl], fun i y hy => ?_⟩
    rw [List.getElem?_append] at hy
    split at hy
    · exact hp i y hy
    · rename_i hlt
      have : i = n := by
        have := (List.getElem?_eq_some_iff.1 hy).1
        simp at this; omega
      subst this
      simp [hl] at hy
      exact hy ▸ hx
theorem addr_plain {w : World} {a : Addr} {v : Value} (h : w.cell? a = some v) : a.spot = none ∧ a.block < w.heap.size := by
  unfold World.cell? at h
  cases hb : w.heap[a.block]? with
  | none => rw [hb] at h; cases h
  | some o =>
    refine ⟨?_, (Array.getElem?_eq_some_iff.1 hb).1⟩
    rw [hb] at h
    cases o with
    | cells c _ _ =>
      simp only at h
      split at h
      · cases h
      · rename_i hs; simpa using hs
    | _ => cases h
theorem wf64 {n : Int} (hw : (Lit.int .i64 n).wf = true) : inR n := by
  simp only [Lit.wf, IntKind.min, IntKind.max, IntKind.signed, IntKind.bits, Bool.and_eq_true] at hw
  unfold inR
  exact ⟨by have := hw.1; simp at this; omega, by have := hw.2; simp at this; omega⟩
theorem u16_wf {n : Int} (hw : (Lit.int .u16 n).wf = true) : 0 ≤ n ∧ n ≤ 65535 := by
  simp only [Lit.wf, IntKind.min, IntKind.max, IntKind.signed, IntKind.bits, Bool.and_eq_true] at hw
  exact ⟨by have := hw.1; simp at this; omega, by have := hw.2; simp at this; omega⟩
theorem weightsAll_mem {H : Type} {P : Program} {e : TypeId} : ∀ {l : List (DataW H)} {d : DataW H}, d ∈ l → ∀ n ∈ d.weights P e, n ∈ DataW.weightsAll P e l
  | d0 :: r, d, hd, n, hn => by
    simp only [DataW.weightsAll, List.mem_append]
    rcases List.mem_cons.1 hd with rfl | hd
    · exact .inl hn
    · exact .inr (weightsAll_mem hd n hn)
  | [], _, hd, _, _ => by simp at hd
section
variable {H : Type} {enc : TypeId × Value → H} {w : World} {base : Nat} {spare : Nat → Bool} {held : Bool}
set_option maxRecDepth 100000 in
theorem instr_open {cs : List Value} {n : Nat} {x : DataW H × List MemPlace} (hlen : cs.length = 6) (h : DataW.trod enc Tryz.prog w base spare held n 34 cs = some x) :
    ∃ k : In, cs = [.int .i64 k.op, .int .i64 k.r, .int .i64 k.a, .int .i64 k.n, .string k.nm, .int .i64 k.ar] ∧ (inR k.op ∧ inR k.r ∧ inR k.a ∧ inR k.n ∧ inR k.ar) ∧ ((∀ m ∈ x.1.weights Tryz.prog 34, m ≤ reachBytes) → k.nm.size ≤ reachBytes) := by
  obtain ⟨ys, n', hn', rfl, hl, hyl, hf⟩ := DataW.trod_struct Tryz.underlying34 h
  match cs, hlen with
  | [c0, c1, c2, c3, c4, c5], _ =>
    have hC9 : Tryz.prog.cellsOf 9 = 1 := by kernel_rfl
    have hC3 : Tryz.prog.cellsOf 3 = 1 := by kernel_rfl
    have hC2 : Tryz.prog.cellsOf 2 = 1 := by kernel_rfl
    have f0 := hf 0 _ rfl
    have f1 := hf 1 _ rfl
    have f2 := hf 2 _ rfl
    have f3 := hf 3 _ rfl
    have f4 := hf 4 _ rfl
    have f5 := hf 5 _ rfl
    match ys, hyl with
    | [y0, y1, y2, y3, y4, y5], _ =>
      obtain ⟨m0, e0, -, w0⟩ := DataW.trod_int Tryz.underlying3 (x := y0) (by simpa [hC3] using f0)
      obtain ⟨m1, e1, -, w1⟩ := DataW.trod_int Tryz.underlying3 (x := y1) (by simpa [hC3] using f1)
      obtain ⟨m2, e2, -, w2⟩ := DataW.trod_int Tryz.underlying3 (x := y2) (by simpa [hC3] using f2)
      obtain ⟨m3, e3, -, w3⟩ := DataW.trod_int Tryz.underlying2 (x := y3) (by simpa [hC2] using f3)
      obtain ⟨s4, e4, z4, -⟩ := DataW.trod_string Tryz.underlying9 (x := y4) (by simpa [hC9] using f4)
      obtain ⟨m5, e5, -, w5⟩ := DataW.trod_int Tryz.underlying3 (x := y5) (by simpa [hC3] using f5)
      simp only [List.cons.injEq, and_true] at e0 e1 e2 e3 e4 e5
      subst e0 e1 e2 e3 e4 e5
      exact ⟨⟨m0, m1, m2, m3, s4, m5⟩, rfl, ⟨wf64 w0, wf64 w1, wf64 w2, wf64 w3, wf64 w5⟩, fun hw => hw _ (by
        simp only [DataW.weights, Tryz.underlying34]
        refine DataW.weights_mem_each (j := 4) rfl rfl _ ?_
        rw [z4]
        exact List.mem_singleton.2 (show s4.data.size = s4.data.toList.length from Array.length_toList.symm))⟩
set_option maxRecDepth 100000 in
theorem code_open {cs : List Value} {n : Nat} {x : DataW H × List MemPlace} (h : DataW.trod enc Tryz.prog w base (fun _ => true) held n 26 cs = some x)
    (hsz : ∀ n ∈ x.1.weights Tryz.prog 26, n ≤ reachBytes) : ∃ (A : Option Addr) (c : Nat) (ks : List In), cs = [.slice A ks.length c] ∧ CapOk A ks.length c ∧ InsAt w w.heap.size A ks.length ks ∧ ks.length * 56 ≤ 140737488355328 ∧ (∀ k ∈ ks, inR k.op ∧ inR k.r ∧ inR k.a ∧ inR k.n ∧ inR k.ar) ∧ (∀ k ∈ ks, k.nm.size ≤ 140737488355328) := by
  have hC : Tryz.prog.cellsOf 34 = 6 := by kernel_rfl
  have hB : Tryz.prog.bytesOf 34 = 56 := by kernel_rfl
  rcases open_slice Tryz.underlying26 h with ⟨rfl, rfl⟩ | ⟨a, len, cap, m, n, D, Pl, rfl, hb, hl, hm, hmm, rfl, hi⟩
  · exact ⟨none, 0, [], rfl, ⟨Nat.le_refl _, fun _ => rfl⟩, ⟨⟨rfl, by simp⟩, fun h => absurd h (by simp)⟩, by simp, fun _ h => (by cases h), fun _ h => by cases h⟩
  · simp only [if_true] at hmm
    subst hmm
    have hw := hsz _ (by simp only [DataW.weights, Tryz.underlying26]; exact List.mem_cons_self)
    simp only [List.length_map, List.length_range, hB, reachBytes] at hw
    rcases Nat.eq_zero_or_pos len with rfl | hpos
    · exact ⟨some a, m, [], rfl, ⟨by simp, fun h => by cases h⟩, ⟨⟨rfl, by simp⟩, fun h => absurd h (by simp)⟩, by simp, fun _ h => (by cases h), fun _ h => by cases h⟩
    obtain ⟨cs', hc, ht'⟩ := hi 0 (by omega)
    rw [hC] at hc
    obtain ⟨_, hcl, hat⟩ := World.cells?_some hc
    have h0 := hat 0 (by omega)
    have e : (a.add (0 * 6)).add 0 = a := by simp [Addr.add]
    rw [e, List.getElem?_eq_getElem (by omega)] at h0
    obtain ⟨hs, hlt⟩ := addr_plain h0
    clear hc ht' hat hcl h0 e
    obtain ⟨ab, ao, asp⟩ := a
    simp only at hs hlt
    subst hs
    obtain ⟨ks, hk, hp⟩ := list_of (P := fun i (k : In) => ICells w ab (ao + i * 6) k ∧ (inR k.op ∧ inR k.r ∧ inR k.a ∧ inR k.n ∧ inR k.ar) ∧ k.nm.size ≤ 140737488355328) len fun i him => by
      obtain ⟨cs', hc, ht'⟩ := hi i (by omega)
      rw [hC] at hc
      obtain ⟨_, hcl, hat⟩ := World.cells?_some hc
      obtain ⟨k, rfl, hr, hnm⟩ := instr_open hcl ht'
      have hnm2 := hnm (fun q hq => hsz q (by
        simp only [DataW.weights, Tryz.underlying26]
        refine List.mem_cons_of_mem _ (List.mem_append_left _ (weightsAll_mem (List.mem_map.2 ⟨i, List.mem_range.2 him, rfl⟩) q hq))))
      have h0 := hat 0 (by omega)
      have h1 := hat 1 (by omega)
      have h2 := hat 2 (by omega)
      have h3 := hat 3 (by omega)
      have h4 := hat 4 (by omega)
      have h5 := hat 5 (by omega)
      simp only [add_plain] at h0 h1 h2 h3 h4 h5
      exact ⟨k, ⟨by simpa using h0, by simpa using h1, by simpa using h2, by simpa using h3, by simpa using h4, by simpa using h5⟩, hr, (by have h9 := hnm2; simp only [reachBytes] at h9; omega)⟩
    subst hk
    refine ⟨some ⟨ab, ao, none⟩, m, ks, rfl, ⟨by omega, fun h => by cases h⟩, ⟨⟨rfl, by omega⟩, fun _ => ⟨ab, ao, rfl, hlt, fun i x hx => (hp i x hx).1⟩⟩, by omega, fun k hk => ?_, fun k hk => ?_⟩
    · obtain ⟨i, hi⟩ := List.mem_iff_getElem?.1 hk
      exact (hp i k hi).2.1
    · obtain ⟨i, hi⟩ := List.mem_iff_getElem?.1 hk
      exact (hp i k hi).2.2
set_option maxRecDepth 100000 in
theorem pred_open {cs : List Value} {n : Nat} {x : DataW H × List MemPlace} (hlen : cs.length = 3) (h : DataW.trod enc Tryz.prog w base spare held n 23 cs = some x) :
    ∃ (s : ByteArray) (a m : Int), cs = [.string s, .int .i64 a, .int .i64 m] ∧ inR a ∧ inR m := by
  obtain ⟨ys, n', hn', hy, hl, hyl, hf⟩ := DataW.trod_struct Tryz.underlying23 h
  match cs, hlen with
  | [c0, c1, c2], _ =>
    have hC9 : Tryz.prog.cellsOf 9 = 1 := by kernel_rfl
    have hC3 : Tryz.prog.cellsOf 3 = 1 := by kernel_rfl
    have hC2 : Tryz.prog.cellsOf 2 = 1 := by kernel_rfl
    have f0 := hf 0 _ rfl
    have f1 := hf 1 _ rfl
    have f2 := hf 2 _ rfl
    match ys, hyl with
    | [y0, y1, y2], _ =>
      obtain ⟨s0, e0, -, -⟩ := DataW.trod_string Tryz.underlying9 (x := y0) (by simpa [hC9] using f0)
      obtain ⟨m1, e1, -, w1⟩ := DataW.trod_int Tryz.underlying3 (x := y1) (by simpa [hC3] using f1)
      obtain ⟨m2, e2, -, w2⟩ := DataW.trod_int Tryz.underlying2 (x := y2) (by simpa [hC2] using f2)
      simp only [List.cons.injEq, and_true] at e0 e1 e2
      subst e0 e1 e2
      exact ⟨s0, m1, m2, rfl, wf64 w1, wf64 w2⟩
set_option maxRecDepth 100000 in
theorem key_open {cs : List Value} {n : Nat} {x : DataW H × List MemPlace} (hlen : cs.length = 4) (h : DataW.trod enc Tryz.prog w base spare held n 25 cs = some x) :
    ∃ (k m : Int) (s : ByteArray) (a : Int), cs = [.int .i64 k, .int .i64 m, .string s, .int .i64 a] ∧ inR k ∧ inR m ∧ inR a := by
  obtain ⟨ys, n', hn', hy, hl, hyl, hf⟩ := DataW.trod_struct Tryz.underlying25 h
  match cs, hlen with
  | [c0, c1, c2, c3], _ =>
    have hC9 : Tryz.prog.cellsOf 9 = 1 := by kernel_rfl
    have hC3 : Tryz.prog.cellsOf 3 = 1 := by kernel_rfl
    have hC2 : Tryz.prog.cellsOf 2 = 1 := by kernel_rfl
    have f0 := hf 0 _ rfl
    have f1 := hf 1 _ rfl
    have f2 := hf 2 _ rfl
    have f3 := hf 3 _ rfl
    match ys, hyl with
    | [y0, y1, y2, y3], _ =>
      obtain ⟨m0, e0, -, w0⟩ := DataW.trod_int Tryz.underlying3 (x := y0) (by simpa [hC3] using f0)
      obtain ⟨m1, e1, -, w1⟩ := DataW.trod_int Tryz.underlying2 (x := y1) (by simpa [hC2] using f1)
      obtain ⟨s2, e2, -, -⟩ := DataW.trod_string Tryz.underlying9 (x := y2) (by simpa [hC9] using f2)
      obtain ⟨m3, e3, -, w3⟩ := DataW.trod_int Tryz.underlying3 (x := y3) (by simpa [hC3] using f3)
      simp only [List.cons.injEq, and_true] at e0 e1 e2 e3
      subst e0 e1 e2 e3
      exact ⟨m0, m1, s2, m3, rfl, wf64 w0, wf64 w1, wf64 w3⟩
/-- what holds of the numbers of a block that comes in -/
structure BkR (b : Bk) : Prop where
  h : inR b.id ∧ inR b.par ∧ inR b.paux ∧ inR b.kk ∧ inR b.kn ∧ inR b.kar
  c : ∀ k ∈ b.code, inR k.op ∧ inR k.r ∧ inR k.a ∧ inR k.n ∧ inR k.ar
  z : b.code.length * 56 ≤ 140737488355328
  s : ∀ k ∈ b.code, k.nm.size ≤ 140737488355328
theorem BkR.rg {b : Bk} (h : BkR b) : RgB b := ⟨h.h.2.2.2.2.1, fun x hx => (h.c x hx).2.2.2.1⟩
set_option maxRecDepth 100000 in
theorem block_val {v : Value} {b0 : Nat} {r : Reach} {d : DataW H} {ps : List MemPlace} (hv : Value.okWide Tryz.prog w r b0 28 v) (h : DataW.Trod enc Tryz.prog w base (fun _ => true) held 28 v d ps)
    (hsz : ∀ n ∈ d.weights Tryz.prog 28, n ≤ reachBytes) : ∃ (b : Bk) (A : Option Addr) (c : Nat), v = b.v A c ∧ CapOk A b.code.length c ∧ InsAt w w.heap.size A b.code.length b.code ∧ BkR b := by
  obtain ⟨cs, rfl, hcs⟩ := okWide_struct Tryz.underlying28 hv
  have hC : Tryz.prog.cellsOf 28 = 9 := by kernel_rfl
  rw [hC] at hcs
  obtain ⟨fuel, hf⟩ := h
  obtain ⟨ys, n', hn', hx, hl, hyl, hfs⟩ := DataW.trod_struct Tryz.underlying28 hf
  simp only [Prod.mk.injEq] at hx
  obtain ⟨rfl, -⟩ := hx
  obtain ⟨cl⟩ := cs
  have hC2 : Tryz.prog.cellsOf 2 = 1 := by kernel_rfl
  have hC23 : Tryz.prog.cellsOf 23 = 3 := by kernel_rfl
  have hC25 : Tryz.prog.cellsOf 25 = 4 := by kernel_rfl
  have hC26 : Tryz.prog.cellsOf 26 = 1 := by kernel_rfl
  have f0 := hfs 0 _ rfl
  have f1 := hfs 1 _ rfl
  have f2 := hfs 2 _ rfl
  have f3 := hfs 3 _ rfl
  match cl, hcs with
  | [c0, c1, c2, c3, c4, c5, c6, c7, c8], _ =>
    match ys, hyl with
    | [y0, y1, y2, y3], _ =>
      obtain ⟨m0, e0, -, w0⟩ := DataW.trod_int Tryz.underlying2 (x := y0) (by simpa [hC2, Value.cells] using f0)
      obtain ⟨s, a, m, e1, w1, w2⟩ := pred_open (x := y1) (cs := [c1, c2, c3]) rfl (by simpa [hC23, Value.cells] using f1)
      obtain ⟨k, km, ks, ka, e2, w3, w4, w5⟩ := key_open (x := y2) (cs := [c4, c5, c6, c7]) rfl (by simpa [hC25, Value.cells] using f2)
      obtain ⟨A, c, l, e3, hca, hin, hzz, hr, hss⟩ := code_open (x := y3) (cs := [c8]) (by simpa [hC26, Value.cells] using f3) (fun m hm => hsz m (by
        simp only [DataW.weights, Tryz.underlying28]
        exact DataW.weights_mem_each (j := 3) rfl rfl m hm))
      simp only [List.cons.injEq, and_true] at e0 e1 e2 e3
      obtain ⟨rfl, rfl, rfl⟩ := e1
      obtain ⟨rfl, rfl, rfl, rfl⟩ := e2
      subst e0 e3
      exact ⟨⟨m0, s, a, m, k, km, ks, ka, l⟩, A, c, rfl, hca, hin, ⟨wf64 w0, w1, w2, w3, w4, w5⟩, hr, hzz, hss⟩
set_option maxRecDepth 100000 in
theorem instr_val {v : Value} {b0 : Nat} {r : Reach} {sp : Nat → Bool} {d : DataW H} {ps : List MemPlace} (hv : Value.okWide Tryz.prog w r b0 34 v) (h : DataW.Trod enc Tryz.prog w base sp held 34 v d ps) :
    ∃ x : In, v = x.v ∧ (inR x.op ∧ inR x.r ∧ inR x.a ∧ inR x.n ∧ inR x.ar) := by
  obtain ⟨cs, rfl, hcs⟩ := okWide_struct Tryz.underlying34 hv
  have hC : Tryz.prog.cellsOf 34 = 6 := by kernel_rfl
  rw [hC] at hcs
  obtain ⟨fuel, hf⟩ := h
  obtain ⟨cl⟩ := cs
  obtain ⟨k, e, hr, -⟩ := instr_open (cs := cl) (by simpa using hcs) hf
  subst e
  exact ⟨k, rfl, hr⟩
end
/-- a start that meets a row's conditions, its shape shown apart -/
theorem witness_at {H : Type} {enc : TypeId × Value → H} {C : Checked} {os : Os} {f : FuncId} {fn : Func} {s : OpenSpec} {conds : List PathCond} {apart : Bool} {laid : List (String × DataW Unit)} (modest : Bool) (w0 : World) (args : Array Value) (hos : w0.os = os)
    (hsh : (w0.forCall (fun _ _ => 0) ⟨#[], args, []⟩).Shaped C.prog)
    (hok : Input.okWideB C.prog (w0.forCall (fun _ _ => 0) ⟨#[], args, []⟩) f ⟨#[], args, []⟩ = true)
    (hrow : s.preRow enc C.prog fn conds apart laid (w0.forCall (fun _ _ => 0) ⟨#[], args, []⟩).memory args) :
    ∃ (w : World) (tape : Tape) (i : Input), w.os = os ∧ (w.forCall tape i).Shaped C.prog ∧ i.vars = [] ∧ Input.okWide C.prog (w.forCall tape i) .any w.heap.size f i ∧
      s.preRow enc C.prog fn conds apart laid (w.forCall tape i).memory i.args ∧ ({ modest := modest } : Assume).holds C.prog (lone (Frame.enter C.prog f i.args .normal) [] (w.forCall tape i)) :=
  ⟨w0, fun _ _ => 0, ⟨#[], args, []⟩, hos, hsh, (Input.okWide_of_okWideB (base := 0) hok).1, (Input.okWide_of_okWideB hok).2, hrow, by
    simp only [Assume.holds]
    exact ⟨by simp, by simp, fun _ => Modest.zero, by simp, by simp⟩⟩
theorem trodAll_below {H : Type} {enc : TypeId × Value → H} {P : Program} (hl : laidOutB P = true) {W W' : World} (hb : Below W.heap.size W W') :
    ∀ {ts : List TypeId} {vs : List Value} {ds : List (DataW H)} {ps : List MemPlace}, (ts.all fun t => P.readableRec t && decide (t < P.types.size)) = true → (∀ x ∈ ps, x.block < W.heap.size) →
      DataW.TrodAll enc P W 0 (fun _ => true) true ts vs ds ps → DataW.TrodAll enc P W' 0 (fun b => decide (b < W.heap.size)) true ts vs ds ps
  | [], [], [], _, _, _, h => h
  | t :: ts, _ :: _, _ :: _, _, hts, hlt, ⟨p, q, h1, h2, e⟩ => by
    simp only [List.all_cons, Bool.and_eq_true, decide_eq_true_eq] at hts
    exact ⟨p, q, Below.trod hl hts.1.1 hts.1.2 h1 hb (fun x hx => hlt x (by rw [e]; exact List.mem_append_left _ hx)),
      trodAll_below hl hb hts.2 (fun x hx => hlt x (by rw [e]; exact List.mem_append_right _ hx)) h2, e⟩
end
end Go.Proofs.YtbipeakinmbdiaaGreatDoor
