/-
  Stacks that are read; the walk of the reference's Valid.
-/
import Derived.Test.YtpkpffnabcgcbaaFq
namespace Go.Proofs.Ytpkpffnabcgcbaa
open Go.RowKit

/-- an environment, a choice point that is read -/
def EnvAt (w : World) (b o : Nat) (x : En) : Prop := ∃ A c, w.cell? ⟨b, o, none⟩ = some (.int .i64 x.prev) ∧ w.cell? ⟨b, o + 1, none⟩ = some (.int .i64 x.id) ∧ w.cell? ⟨b, o + 2, none⟩ = some (.int .i64 x.pc) ∧ w.cell? ⟨b, o + 3, none⟩ = some (.slice A x.y.length c) ∧
  CapOk A x.y.length c ∧ CellsAt w A x.y
def ChAt (w : World) (b o : Nat) (x : Ch) : Prop := ∃ A c A' c', w.cell? ⟨b, o, none⟩ = some (.int .i64 x.kind) ∧ w.cell? ⟨b, o + 1, none⟩ = some (.slice A x.args.length c) ∧ w.cell? ⟨b, o + 2, none⟩ = some (.int .i64 x.env) ∧ w.cell? ⟨b, o + 3, none⟩ = some (.int .i64 x.id) ∧
  w.cell? ⟨b, o + 4, none⟩ = some (.int .i64 x.pc) ∧ w.cell? ⟨b, o + 5, none⟩ = some (.int .i64 x.cut) ∧ w.cell? ⟨b, o + 6, none⟩ = some (.int .i64 x.mark) ∧ w.cell? ⟨b, o + 7, none⟩ = some (.int .i64 x.top) ∧ w.cell? ⟨b, o + 8, none⟩ = some (.int .i64 x.envs) ∧
  w.cell? ⟨b, o + 9, none⟩ = some (.slice A' x.alts.length c') ∧ w.cell? ⟨b, o + 10, none⟩ = some (.int .i64 x.data) ∧ CapOk A x.args.length c ∧ CapOk A' x.alts.length c' ∧ CellsAt w A x.args ∧ IntsAt w A' x.alts
def EnvsAt (w : World) (A : Option Addr) (l : List En) : Prop := 0 < l.length → ∃ b off, A = some ⟨b, off, none⟩ ∧ b < w.heap.size ∧ ∀ i x, l[i]? = some x → EnvAt w b (off + i * 4) x
def ChsAt (w : World) (A : Option Addr) (l : List Ch) : Prop := 0 < l.length → ∃ b off, A = some ⟨b, off, none⟩ ∧ b < w.heap.size ∧ ∀ i x, l[i]? = some x → ChAt w b (off + i * 11) x
theorem EnvAt.next {w w' : World} {b o : Nat} {x : En} (h : EnvAt w b o x) (hb : Below w.heap.size w w') (hlt : b < w.heap.size) : EnvAt w' b o x := by
  obtain ⟨A, c, h0, h1, h2, h3, h4, h5⟩ := h
  have k : ∀ {i : Nat} {v : Value}, w.cell? ⟨b, i, none⟩ = some v → w'.cell? ⟨b, i, none⟩ = some v := fun h => (hb.cell (p := ⟨b, _, none⟩) hlt).trans h
  exact ⟨A, c, k h0, k h1, k h2, k h3, h4, h5.next hb⟩
theorem ChAt.next {w w' : World} {b o : Nat} {x : Ch} (h : ChAt w b o x) (hb : Below w.heap.size w w') (hlt : b < w.heap.size) : ChAt w' b o x := by
  obtain ⟨A, c, A', c', h0, h1, h2, h3, h4, h5, h6, h7, h8, h9, h10, r1, r2, r3, r4⟩ := h
  have k : ∀ {i : Nat} {v : Value}, w.cell? ⟨b, i, none⟩ = some v → w'.cell? ⟨b, i, none⟩ = some v := fun h => (hb.cell (p := ⟨b, _, none⟩) hlt).trans h
  exact ⟨A, c, A', c', k h0, k h1, k h2, k h3, k h4, k h5, k h6, k h7, k h8, k h9, k h10, r1, r2, r3.next hb, r4.next hb⟩
theorem EnvsAt.next {w w' : World} {A : Option Addr} {l : List En} (h : EnvsAt w A l) (hb : Below w.heap.size w w') : EnvsAt w' A l := fun hn => by
  obtain ⟨b, off, e, hlt, hc⟩ := h hn
  exact ⟨b, off, e, Nat.lt_of_lt_of_le hlt hb.size, fun i x hx => (hc i x hx).next hb hlt⟩
theorem ChsAt.next {w w' : World} {A : Option Addr} {l : List Ch} (h : ChsAt w A l) (hb : Below w.heap.size w w') : ChsAt w' A l := fun hn => by
  obtain ⟨b, off, e, hlt, hc⟩ := h hn
  exact ⟨b, off, e, Nat.lt_of_lt_of_le hlt hb.size, fun i x hx => (hc i x hx).next hb hlt⟩
/-- stacks as a value -/
@[reducible] def stV (s : St) (A : Option Addr) (c : Nat) (A' : Option Addr) (c' : Nat) : Value := .agg #[.slice A s.envs.length c, .int .i64 s.e, .slice A' s.chs.length c']
structure StAt (w : World) (A : Option Addr) (c : Nat) (A' : Option Addr) (c' : Nat) (s : St) : Prop where
  ecap : CapOk A s.envs.length c
  ccap : CapOk A' s.chs.length c'
  envs : EnvsAt w A s.envs
  chs : ChsAt w A' s.chs
theorem StAt.next {w w' : World} {A A' : Option Addr} {c c' : Nat} {s : St} (h : StAt w A c A' c' s) (hb : Below w.heap.size w w') : StAt w' A c A' c' s := ⟨h.ecap, h.ccap, h.envs.next hb, h.chs.next hb⟩
/-- what lies behind a pointer can be read -/
theorem Stk.at {w : World} {B p : Nat} {s : St} {ve vc : Value} {ys : List Value} {cs : List (Value × Value)} (h : Stk w B p s ve vc ys cs) : ∃ A c A' c', ve = .slice A s.envs.length c ∧ vc = .slice A' s.chs.length c' ∧ StAt w A c A' c' s := by
  obtain ⟨A, c, rfl, hcap⟩ := own_form h.envs
  obtain ⟨A', c', rfl, hcap'⟩ := own_form h.chs
  refine ⟨A, c, A', c', rfl, rfl, hcap, hcap', fun hn => ?_, fun hn => ?_⟩
  · have h0 : s.envs[0]? = some (s.envs[0]'hn) := List.getElem?_eq_getElem hn
    obtain ⟨g, cap, v, e, -⟩ := h.enAt h0
    injection e with e _ _
    subst e
    refine ⟨g, 0, rfl, (h.envs.lt g rfl).2, fun i x hx => ?_⟩
    obtain ⟨g', cap', v', e', -, hv, hr, k0, k1, k2, k3⟩ := h.enAt hx
    injection e' with e' _ _
    injection e' with e'
    injection e' with e' _ _
    subst e'
    obtain ⟨Ay, cy, rfl, hcy⟩ := own_form hr
    rw [Nat.zero_add]
    exact ⟨Ay, cy, k0, k1, k2, k3, hcy, own_cellsAt hr⟩
  · have h0 : s.chs[0]? = some (s.chs[0]'hn) := List.getElem?_eq_getElem hn
    obtain ⟨g, cap, v, e, -⟩ := h.chAt h0
    injection e with e _ _
    subst e
    refine ⟨g, 0, rfl, (h.chs.lt g rfl).2, fun i x hx => ?_⟩
    obtain ⟨g', cap', v', e', -, hv, k0, k1, k2, k3, k4, k5, k6, k7, k8, k9, k10⟩ := h.chAt hx
    injection e' with e' _ _
    injection e' with e'
    injection e' with e' _ _
    subst e'
    obtain ⟨r1, r2⟩ := h.crow i x v' hx hv
    obtain ⟨va, vb⟩ := v'
    obtain ⟨Aa, ca, ea, hca⟩ := own_form r1
    obtain ⟨Ab, cb, eb, hcb⟩ := own_form r2
    have ea : va = _ := ea
    have eb : vb = _ := eb
    subst ea eb
    rw [Nat.zero_add]
    exact ⟨Aa, ca, Ab, cb, k0, k1, k2, k3, k4, k5, k6, k7, k8, k9, k10, hca, hcb, own_cellsAt r1, own_intsAt r2⟩
/-- the protected height below a choice point -/
def highAt (l : List Ch) : Nat → Int
  | 0 => 0
  | i + 1 => match l[i]? with
    | some c => c.envs
    | none => 0
def enOk (i : Nat) (x : En) : Prop := 0 ≤ x.prev ∧ x.prev ≤ i ∧ 0 ≤ x.pc ∧ x.y.length ≤ 4096
/-- valid stacks -/
structure Good (s : St) : Prop where
  envs : s.envs.length ≤ 1048576
  chs : s.chs.length ≤ 1048576
  en : ∀ i x, s.envs[i]? = some x → enOk i x
  ch : ∀ i x, s.chs[i]? = some x → 0 ≤ x.env ∧ x.envs = max x.env (highAt s.chs i)
  e : 0 ≤ s.e
  len : (s.envs.length : Int) = max s.e (highAt s.chs s.chs.length)
/-- a truth value is returned: whether the stacks are valid -/
def VRet (s : St) (e : Ending) : Prop := ∃ b, e = .returned (.bool b) ∧ (b = true ↔ Good s)
theorem VRet.no {s : St} (h : ¬ Good s) : VRet s (.returned (.bool false)) := ⟨false, rfl, fun h => absurd h Bool.false_ne_true, fun g => absurd g h⟩
theorem VRet.of {s : St} {b : Bool} (h : b = true ↔ Good s) : VRet s (.returned (.bool b)) := ⟨b, rfl, h⟩
set_option maxHeartbeats 4000000 in
theorem valid_any {A A' : Option Addr} {c c' : Nat} {s : St} (w : World) (h : StAt w A c A' c' s) (hn : s.envs.length ≤ 10000000000000) (hnc : s.chs.length ≤ 10000000000000) (hny : ∀ x ∈ s.envs, x.y.length ≤ 10000000000000) :
    Calls Try.prog 8 #[stV s A c A' c'] w fun e w' => VRet s e ∧ Below w.heap.size w w' := by
  obtain ⟨W, HW⟩ : ∃ X, Hid (X = w.alloc (.cells #[.slice A s.envs.length c, .int .i64 s.e, .slice A' s.chs.length c'] 25)) := ⟨_, rfl⟩
  have hbW : Below w.heap.size w W := by rw [HW.out]; exact bAlloc _ _
  obtain ⟨q, hq⟩ : ∃ q, Hid (q = w.heap.size) := ⟨_, rfl⟩
  have hk0 : Blk W q 25 #[.slice A s.envs.length c, .int .i64 s.e, .slice A' s.chs.length c'] := by rw [HW.out, hq.out]; exact Blk.new w _ _
  have HS := Lib.hid (h.next hbW)
  have HB := Lib.hid hbW
  have HK := Lib.hid hk0
  have hc0 := hk0.cell 0
  have hc1 := hk0.cell 1
  have hc2 := hk0.cell 2
  have hl := hk0.lt
  simp at hc0 hc1 hc2
  clear h hbW hk0
  by_cases hbig : 1048576 < (s.envs.length : Int)
  · go_enter Try.func8, Try.ntmps8
    go_upto_region 1 with fail
    rw [← HW.out, ← hq.out]
    clear HW
    go_wp2_with fail
    go_ret
    exact ⟨VRet.no (fun g => by have := g.envs; omega), HB.out⟩
  by_cases hbig2 : 1048576 < (s.chs.length : Int)
  · go_enter Try.func8, Try.ntmps8
    go_upto_region 1 with fail
    rw [← HW.out, ← hq.out]
    clear HW
    go_wp2_with fail
    go_ret
    exact ⟨VRet.no (fun g => by have := g.chs; omega), HB.out⟩
  go_enter Try.func8, Try.ntmps8
  go_upto_region 1 with fail
  rw [← HW.out, ← hq.out]
  clear HW
  go_wp2_with fail
  go_loopw [3] (fun i wr => ∃ k : Nat, k ≤ s.envs.length ∧ i = .int .i64 (k : Int) ∧ Hid (Below W.heap.size W wr) ∧ Hid (∀ j x, j < k → s.envs[j]? = some x → enOk j x)) (fun i _ => s.envs.length - (intOf i).toNat)
  case atStart => exact ⟨0, by omega, rfl, Lib.hid (Below.refl _ _), Lib.hid fun j x hj => absurd hj (Nat.not_lt_zero _)⟩
  case round =>
    obtain ⟨k, hk, rfl, HI, HOK⟩ := hrel
    have hkr := HK.out.next HI.out
    have i0 := hkr.cell 0
    have i2 := hkr.cell 2
    have i1 := hkr.cell 1
    have il := hkr.lt
    simp at i0 i1 i2
    clear hkr hc0 hc1 hc2 hl
    by_cases hlt : k < s.envs.length
    · obtain ⟨x, hx⟩ : ∃ x, s.envs[k]? = some x := ⟨_, List.getElem?_eq_getElem hlt⟩
      have hxy := hny x (List.mem_of_getElem? hx)
      obtain ⟨b, off, rfl, hb, hat⟩ := (HS.out.next HI.out).envs (by omega)
      obtain ⟨Ay, cy, x0, x1, x2, x3, hcy, -⟩ := hat k x hx
      have HX := Lib.hid hx
      have HCY := Lib.hid hcy
      clear hat hx hcy
      go_upto_region 7 with fail
      obtain ⟨W2, HW2⟩ : ∃ X, Hid (X = wr.alloc (.cells #[.int .i64 x.prev, .int .i64 x.id, .int .i64 x.pc, .slice Ay x.y.length cy] 54)) := ⟨_, rfl⟩
      have hb2 : Below wr.heap.size wr W2 := by rw [HW2.out]; exact bAlloc _ _
      obtain ⟨q2, hq2⟩ : ∃ q, Hid (q = wr.heap.size) := ⟨_, rfl⟩
      have hk2 : Blk W2 q2 54 #[.int .i64 x.prev, .int .i64 x.id, .int .i64 x.pc, .slice Ay x.y.length cy] := by rw [HW2.out, hq2.out]; exact Blk.new _ _ _
      rw [← HW2.out, ← hq2.out]
      have HB2 := Lib.hid (bNext HI.out hb2)
      have y0 := hk2.cell 0
      have y1 := hk2.cell 1
      have y2 := hk2.cell 2
      have y3 := hk2.cell 3
      have yl := hk2.lt
      simp at y0 y1 y2 y3
      clear hk2 hb2 HW2 hq2 x0 x1 x2 x3 i0 i1 i2 HI
      by_cases hok : enOk k x
      · have HO := Lib.hid hok
        obtain ⟨o0, o1, o2, o3⟩ := hok
        have o0' : ¬ x.prev < 0 := by omega
        have o1' : ¬ (k : Int) < x.prev := by omega
        have o2' : ¬ x.pc < 0 := by omega
        have o3' : ¬ (4096 : Int) < (x.y.length : Int) := by omega
        clear o0 o1 o2 o3
        go_wp2_with fail
        refine ⟨⟨k + 1, by omega, by go_num, Lib.hid HB2.out, Lib.hid fun j z hj hz => ?_⟩, by simp [intOf]; omega⟩
        by_cases hjk : j = k
        · subst hjk
          rw [HX.out] at hz
          injection hz with hz
          exact hz ▸ HO.out
        · exact HOK.out j z (by omega) hz
      · have HO := Lib.hid hok
        have hno : Hid (¬ Good s) := Lib.hid fun g => HO.out (g.en k x HX.out)
        by_cases p0 : x.prev < 0
        · go_wp2_with fail
          go_ret
          exact ⟨VRet.no hno.out, bNext HB.out HB2.out⟩
        by_cases p1 : (k : Int) < x.prev
        · go_wp2_with fail
          go_ret
          exact ⟨VRet.no hno.out, bNext HB.out HB2.out⟩
        by_cases p2 : x.pc < 0
        · go_wp2_with fail
          go_ret
          exact ⟨VRet.no hno.out, bNext HB.out HB2.out⟩
        have p3 : (4096 : Int) < (x.y.length : Int) := by
          unfold enOk at hok
          omega
        clear hok
        go_wp2_with fail
        go_ret
        exact ⟨VRet.no hno.out, bNext HB.out HB2.out⟩
    · have HALL : Hid (∀ j x, s.envs[j]? = some x → enOk j x) := Lib.hid fun j x hx => HOK.out j x (by have := (List.getElem?_eq_some_iff.1 hx).1; omega) hx
      clear HOK
      go_wp2_with fail
      go_loopw [5, 6] (fun hi i w2 => ∃ k : Nat, k ≤ s.chs.length ∧ hi = .int .i64 (highAt s.chs k) ∧ i = .int .i64 (k : Int) ∧ Hid (Below W.heap.size W w2) ∧ Hid (∀ j x, j < k → s.chs[j]? = some x → 0 ≤ x.env ∧ x.envs = max x.env (highAt s.chs j))) (fun _ i _ => s.chs.length - (intOf i).toNat)
      case atStart => exact ⟨0, by omega, rfl, rfl, Lib.hid HI.out, Lib.hid fun j x hj => absurd hj (Nat.not_lt_zero _)⟩
      case round =>
        obtain ⟨k2, hk2, rfl, rfl, HJ, HCOK⟩ := hrel
        have hkr := HK.out.next HJ.out
        have i0 := hkr.cell 0
        have i2 := hkr.cell 2
        have i1 := hkr.cell 1
        have il := hkr.lt
        simp at i0 i1 i2
        clear hkr
        by_cases hlt2 : k2 < s.chs.length
        · obtain ⟨x, hx⟩ : ∃ x, s.chs[k2]? = some x := ⟨_, List.getElem?_eq_getElem hlt2⟩
          obtain ⟨b2, off2, rfl, hb2', hat2⟩ := (HS.out.next HJ.out).chs (by omega)
          obtain ⟨Aa, ca, Ab, cb, x0, x1, x2, x3, x4, x5, x6, x7, x8, x9, x10, hca, hcb, -⟩ := hat2 k2 x hx
          have HX := Lib.hid hx
          have HCA := Lib.hid hca
          have HCB := Lib.hid hcb
          clear hat2 hx hca hcb
          go_upto_region 14 with fail
          obtain ⟨W3, HW3⟩ : ∃ X, Hid (X = wr.alloc (.cells #[.int .i64 x.kind, .slice Aa x.args.length ca, .int .i64 x.env, .int .i64 x.id, .int .i64 x.pc, .int .i64 x.cut, .int .i64 x.mark, .int .i64 x.top, .int .i64 x.envs, .slice Ab x.alts.length cb, .int .i64 x.data] 29)) := ⟨_, rfl⟩
          have hb3 : Below wr.heap.size wr W3 := by rw [HW3.out]; exact bAlloc _ _
          obtain ⟨q3, hq3⟩ : ∃ q, Hid (q = wr.heap.size) := ⟨_, rfl⟩
          have hk3 : Blk W3 q3 29 #[.int .i64 x.kind, .slice Aa x.args.length ca, .int .i64 x.env, .int .i64 x.id, .int .i64 x.pc, .int .i64 x.cut, .int .i64 x.mark, .int .i64 x.top, .int .i64 x.envs, .slice Ab x.alts.length cb, .int .i64 x.data] := by rw [HW3.out, hq3.out]; exact Blk.new _ _ _
          rw [← HW3.out, ← hq3.out]
          obtain ⟨X0, HX0⟩ : ∃ X, Hid (X = W3.drew) := ⟨_, rfl⟩
          have hd0 : Below W3.heap.size W3 X0 := by rw [HX0.out]; exact bDrew _
          have hk3' := hk3.next hd0
          have y2 := hk3'.cell 2
          have y8 := hk3'.cell 8
          have yl := hk3'.lt
          simp at y2 y8
          have HB3 := Lib.hid (bNext (bNext HJ.out hb3) hd0)
          clear hk3 hk3' hb3 HW3 hq3 x0 x1 x2 x3 x4 x5 x6 x7 x8 x9 x10 i0 i1 i2 HJ
          by_cases p0 : x.env < 0
          · have hno : Hid (¬ Good s) := Lib.hid fun g => by have := (g.ch k2 x HX.out).1; omega
            refine wp_region_N (fun w' => w' = X0) (fun _ => true) (by kernel_rfl) ?_
            rw [← HX0.out]
            clear HX0 hd0
            have hS0 : (fun w' => w' = X0) X0 := rfl
            refine wpAnyN_take (i := 0) (v := ?v1) rfl (by kernel_rfl) (by kernel_rfl) (by kernel_rfl) (by kernel_rfl) (fun _ _ _ h => h) (Or.inl ⟨by rfl, ?hy1⟩) (by assumption) ?_
            case hy1 => intro w hSw; obtain rfl := hSw; go_simp; try with_reducible rfl
            simp only [Act.put, List.getElem_toArray, List.getElem_cons_zero, List.setIfInBounds_toArray, List.set_cons_zero, List.set_cons_succ]
            refine wpAnyN_take (i := 1) (v := ?v2) rfl (by kernel_rfl) (by kernel_rfl) (by kernel_rfl) (by kernel_rfl) (fun _ _ _ h => h) (Or.inl ⟨by rfl, ?hy2⟩) (by assumption) ?_
            case hy2 => intro w hSw; obtain rfl := hSw; go_simp; try with_reducible rfl
            simp only [Act.put, List.getElem_toArray, List.getElem_cons_zero, List.getElem_cons_succ, List.setIfInBounds_toArray, List.set_cons_zero, List.set_cons_succ]
            refine wpAnyN_take (i := 2) (v := ?v3) rfl (by kernel_rfl) (by kernel_rfl) (by kernel_rfl) (by kernel_rfl) (fun _ _ _ h => h) (Or.inl ⟨by rfl, ?hy3⟩) (by assumption) ?_
            case hy3 => intro w hSw; obtain rfl := hSw; go_simp; try with_reducible rfl
            simp only [Act.put, List.getElem_toArray, List.getElem_cons_zero, List.getElem_cons_succ, List.setIfInBounds_toArray, List.set_cons_zero, List.set_cons_succ]
            refine wpAnyN_take (i := 3) (v := ?v4) rfl (by kernel_rfl) (by kernel_rfl) (by kernel_rfl) (by kernel_rfl) (fun _ _ _ h => h) (Or.inl ⟨by rfl, ?hy4⟩) (by assumption) ?_
            case hy4 => intro w hSw; obtain rfl := hSw; go_simp; try with_reducible rfl
            simp only [Act.put, List.getElem_toArray, List.getElem_cons_zero, List.getElem_cons_succ, List.setIfInBounds_toArray, List.set_cons_zero, List.set_cons_succ]
            refine wpAnyN_take (i := 4) (v := undef) rfl (by kernel_rfl) (by kernel_rfl) (by kernel_rfl) (by kernel_rfl) (fun _ _ _ h => h) (Or.inr ⟨by rfl, rfl⟩) (by assumption) ?_
            simp only [Act.put, List.getElem_toArray, List.getElem_cons_zero, List.getElem_cons_succ, List.setIfInBounds_toArray, List.set_cons_zero, List.set_cons_succ]
            refine wpAnyN_take (i := 5) (v := undef) rfl (by kernel_rfl) (by kernel_rfl) (by kernel_rfl) (by kernel_rfl) (fun _ _ _ h => h) (Or.inr ⟨by rfl, rfl⟩) (by assumption) ?_
            simp only [Act.put, List.getElem_toArray, List.getElem_cons_zero, List.getElem_cons_succ, List.setIfInBounds_toArray, List.set_cons_zero, List.set_cons_succ]
            refine wpAnyN_take (i := 6) (v := undef) rfl (by kernel_rfl) (by kernel_rfl) (by kernel_rfl) (by kernel_rfl) (fun _ _ _ h => h) (Or.inr ⟨by rfl, rfl⟩) (by assumption) ?_
            simp only [Act.put, List.getElem_toArray, List.getElem_cons_zero, List.getElem_cons_succ, List.setIfInBounds_toArray, List.set_cons_zero, List.set_cons_succ]
            refine wpAnyN_take (i := 7) (v := undef) rfl (by kernel_rfl) (by kernel_rfl) (by kernel_rfl) (by kernel_rfl) (fun _ _ _ h => h) (Or.inr ⟨by rfl, rfl⟩) (by assumption) ?_
            simp only [Act.put, List.getElem_toArray, List.getElem_cons_zero, List.getElem_cons_succ, List.setIfInBounds_toArray, List.set_cons_zero, List.set_cons_succ]
            refine wpAnyN_take (i := 8) (v := undef) rfl (by kernel_rfl) (by kernel_rfl) (by kernel_rfl) (by kernel_rfl) (fun _ _ _ h => h) (Or.inr ⟨by rfl, rfl⟩) (by assumption) ?_
            simp only [Act.put, List.getElem_toArray, List.getElem_cons_zero, List.getElem_cons_succ, List.setIfInBounds_toArray, List.set_cons_zero, List.set_cons_succ]
            refine wpAnyN_one (i := 9) (by kernel_rfl) rfl (fun K hK => ?_)
            simp only [List.getElem_toArray, List.getElem_cons_zero, List.getElem_cons_succ]
            go_simp
            refine hK _ _ (fun _ => hS0) ?_
            (try simp only [Act.put, List.setIfInBounds_toArray, List.set_cons_zero, List.set_cons_succ])
            refine wpAnyN_take (i := 10) (v := undef) rfl (by kernel_rfl) (by kernel_rfl) (by kernel_rfl) (by kernel_rfl) (fun _ _ _ h => h) (Or.inr ⟨by rfl, rfl⟩) (by assumption) ?_
            simp only [Act.put, List.getElem_toArray, List.getElem_cons_zero, List.getElem_cons_succ, List.setIfInBounds_toArray, List.set_cons_zero, List.set_cons_succ]
            refine wpAnyN_take (i := 11) (v := ?v11) rfl (by kernel_rfl) (by kernel_rfl) (by kernel_rfl) (by kernel_rfl) (fun _ _ _ h => h) (Or.inl ⟨by rfl, ?hy11⟩) (by assumption) ?_
            case hy11 => intro w hSw; obtain rfl := hSw; go_simp; try with_reducible rfl
            simp only [Act.put, List.getElem_toArray, List.getElem_cons_zero, List.getElem_cons_succ, List.setIfInBounds_toArray, List.set_cons_zero, List.set_cons_succ]
            refine wpAnyN_done (by kernel_rfl) ?_ _
            go_wp2_with fail
            go_ret
            exact ⟨VRet.no hno.out, bNext HB.out HB3.out⟩
          · refine wp_region_N (fun w' => w' = X0) (fun _ => true) (by kernel_rfl) ?_
            rw [← HX0.out]
            clear HX0 hd0
            have hS0 : (fun w' => w' = X0) X0 := rfl
            refine wpAnyN_take (i := 0) (v := ?v12) rfl (by kernel_rfl) (by kernel_rfl) (by kernel_rfl) (by kernel_rfl) (fun _ _ _ h => h) (Or.inl ⟨by rfl, ?hy12⟩) (by assumption) ?_
            case hy12 => intro w hSw; obtain rfl := hSw; go_simp; try with_reducible rfl
            simp only [Act.put, List.getElem_toArray, List.getElem_cons_zero, List.setIfInBounds_toArray, List.set_cons_zero, List.set_cons_succ]
            refine wpAnyN_take (i := 1) (v := ?v13) rfl (by kernel_rfl) (by kernel_rfl) (by kernel_rfl) (by kernel_rfl) (fun _ _ _ h => h) (Or.inl ⟨by rfl, ?hy13⟩) (by assumption) ?_
            case hy13 => intro w hSw; obtain rfl := hSw; go_simp; try with_reducible rfl
            simp only [Act.put, List.getElem_toArray, List.getElem_cons_zero, List.getElem_cons_succ, List.setIfInBounds_toArray, List.set_cons_zero, List.set_cons_succ]
            refine wpAnyN_take (i := 2) (v := ?v14) rfl (by kernel_rfl) (by kernel_rfl) (by kernel_rfl) (by kernel_rfl) (fun _ _ _ h => h) (Or.inl ⟨by rfl, ?hy14⟩) (by assumption) ?_
            case hy14 => intro w hSw; obtain rfl := hSw; go_simp; try with_reducible rfl
            simp only [Act.put, List.getElem_toArray, List.getElem_cons_zero, List.getElem_cons_succ, List.setIfInBounds_toArray, List.set_cons_zero, List.set_cons_succ]
            refine wpAnyN_take (i := 3) (v := ?v15) rfl (by kernel_rfl) (by kernel_rfl) (by kernel_rfl) (by kernel_rfl) (fun _ _ _ h => h) (Or.inl ⟨by rfl, ?hy15⟩) (by assumption) ?_
            case hy15 => intro w hSw; obtain rfl := hSw; go_simp; try with_reducible rfl
            simp only [Act.put, List.getElem_toArray, List.getElem_cons_zero, List.getElem_cons_succ, List.setIfInBounds_toArray, List.set_cons_zero, List.set_cons_succ]
            refine wpAnyN_take (i := 4) (v := ?v16) rfl (by kernel_rfl) (by kernel_rfl) (by kernel_rfl) (by kernel_rfl) (fun _ _ _ h => h) (Or.inl ⟨by rfl, ?hy16⟩) (by assumption) ?_
            case hy16 => intro w hSw; obtain rfl := hSw; go_simp; try with_reducible rfl
            simp only [Act.put, List.getElem_toArray, List.getElem_cons_zero, List.getElem_cons_succ, List.setIfInBounds_toArray, List.set_cons_zero, List.set_cons_succ]
            refine wpAnyN_take (i := 5) (v := ?v17) rfl (by kernel_rfl) (by kernel_rfl) (by kernel_rfl) (by kernel_rfl) (fun _ _ _ h => h) (Or.inl ⟨by rfl, ?hy17⟩) (by assumption) ?_
            case hy17 => intro w hSw; obtain rfl := hSw; go_simp; try with_reducible rfl
            simp only [Act.put, List.getElem_toArray, List.getElem_cons_zero, List.getElem_cons_succ, List.setIfInBounds_toArray, List.set_cons_zero, List.set_cons_succ]
            refine wpAnyN_take (i := 6) (v := ?v18) rfl (by kernel_rfl) (by kernel_rfl) (by kernel_rfl) (by kernel_rfl) (fun _ _ _ h => h) (Or.inl ⟨by rfl, ?hy18⟩) (by assumption) ?_
            case hy18 => intro w hSw; obtain rfl := hSw; go_simp; try with_reducible rfl
            simp only [Act.put, List.getElem_toArray, List.getElem_cons_zero, List.getElem_cons_succ, List.setIfInBounds_toArray, List.set_cons_zero, List.set_cons_succ]
            refine wpAnyN_take (i := 7) (v := ?v19) rfl (by kernel_rfl) (by kernel_rfl) (by kernel_rfl) (by kernel_rfl) (fun _ _ _ h => h) (Or.inl ⟨by rfl, ?hy19⟩) (by assumption) ?_
            case hy19 => intro w hSw; obtain rfl := hSw; go_simp; try with_reducible rfl
            simp only [Act.put, List.getElem_toArray, List.getElem_cons_zero, List.getElem_cons_succ, List.setIfInBounds_toArray, List.set_cons_zero, List.set_cons_succ]
            refine wpAnyN_take (i := 8) (v := ?v20) rfl (by kernel_rfl) (by kernel_rfl) (by kernel_rfl) (by kernel_rfl) (fun _ _ _ h => h) (Or.inl ⟨by rfl, ?hy20⟩) (by assumption) ?_
            case hy20 => intro w hSw; obtain rfl := hSw; go_simp; try with_reducible rfl
            simp only [Act.put, List.getElem_toArray, List.getElem_cons_zero, List.getElem_cons_succ, List.setIfInBounds_toArray, List.set_cons_zero, List.set_cons_succ]
            refine wpAnyN_one (i := 9) (by kernel_rfl) rfl (fun K hK => ?_)
            simp only [List.getElem_toArray, List.getElem_cons_zero, List.getElem_cons_succ]
            go_simp
            refine (greater_any _ _ _).mono ?_
            rintro e w9 ⟨rfl, h9⟩
            obtain rfl := h9.symm
            clear h9
            refine hK _ _ (fun _ => hS0) ?_
            (try simp only [Act.put, List.setIfInBounds_toArray, List.set_cons_zero, List.set_cons_succ])
            obtain ⟨mx, hmx⟩ : ∃ mx, Hid (mx = max x.env (highAt s.chs k2)) := ⟨_, rfl⟩
            rw [← hmx.out]
            refine wpAnyN_take (i := 10) (v := ?v21) rfl (by kernel_rfl) (by kernel_rfl) (by kernel_rfl) (by kernel_rfl) (fun _ _ _ h => h) (Or.inl ⟨by rfl, ?hy21⟩) (by assumption) ?_
            case hy21 => intro w hSw; obtain rfl := hSw; go_simp; try with_reducible rfl
            simp only [Act.put, List.getElem_toArray, List.getElem_cons_zero, List.getElem_cons_succ, List.setIfInBounds_toArray, List.set_cons_zero, List.set_cons_succ]
            refine wpAnyN_take (i := 11) (v := ?v22) rfl (by kernel_rfl) (by kernel_rfl) (by kernel_rfl) (by kernel_rfl) (fun _ _ _ h => h) (Or.inl ⟨by rfl, ?hy22⟩) (by assumption) ?_
            case hy22 => intro w hSw; obtain rfl := hSw; go_simp; try with_reducible rfl
            simp only [Act.put, List.getElem_toArray, List.getElem_cons_zero, List.getElem_cons_succ, List.setIfInBounds_toArray, List.set_cons_zero, List.set_cons_succ]
            refine wpAnyN_done (by kernel_rfl) ?_ _
            by_cases p1 : x.envs = mx
            · have p1b : (x.envs != mx) = false := by rw [p1]; simp
              have P1 := Lib.hid p1
              clear p1
              go_wp2_with fail
              refine ⟨⟨k2 + 1, by omega, ?_, by go_num, Lib.hid HB3.out, Lib.hid fun j z hj hz => ?_⟩, by simp [intOf]; omega⟩
              · have e9 : highAt s.chs (k2 + 1) = x.envs := by show (match s.chs[k2]? with | some c => c.envs | none => 0) = _; rw [HX.out]
                rw [e9]
              · by_cases hjk : j = k2
                · subst hjk
                  rw [HX.out] at hz
                  injection hz with hz
                  subst hz
                  exact ⟨by omega, by rw [P1.out, hmx.out]⟩
                · exact HCOK.out j z (by omega) hz
            · have p1b : (x.envs != mx) = true := by simpa using p1
              have hno : Hid (¬ Good s) := Lib.hid fun g => p1 (by rw [hmx.out]; exact (g.ch k2 x HX.out).2)
              clear p1
              go_wp2_with fail
              go_ret
              exact ⟨VRet.no hno.out, bNext HB.out HB3.out⟩
        · have hch : Hid (∀ j x, s.chs[j]? = some x → 0 ≤ x.env ∧ x.envs = max x.env (highAt s.chs j)) := Lib.hid fun j x hx => HCOK.out j x (by have := (List.getElem?_eq_some_iff.1 hx).1; omega) hx
          obtain rfl : k2 = s.chs.length := by omega
          clear HCOK
          go_upto_region 17 with fail
          obtain ⟨X0, HX0⟩ : ∃ X, Hid (X = wr.drew) := ⟨_, rfl⟩
          have hd0 : Below wr.heap.size wr X0 := by rw [HX0.out]; exact bDrew _
          have hk3' := HK.out.next (bNext HJ.out hd0)
          have y0 := hk3'.cell 0
          have y1 := hk3'.cell 1
          have yl := hk3'.lt
          simp at y0 y1
          have HB3 := Lib.hid (bNext HJ.out hd0)
          clear hk3' i0 i1 i2 HJ
          obtain ⟨hh, HH⟩ : ∃ hh, Hid (hh = highAt s.chs s.chs.length) := ⟨_, rfl⟩
          rw [← HH.out]
          by_cases p0 : 0 ≤ s.e
          · refine wp_region_N (fun w' => w' = X0) (fun _ => true) (by kernel_rfl) ?_
            rw [← HX0.out]
            clear HX0 hd0
            have hS0 : (fun w' => w' = X0) X0 := rfl
            refine wpAnyN_take (i := 0) (v := ?v23) rfl (by kernel_rfl) (by kernel_rfl) (by kernel_rfl) (by kernel_rfl) (fun _ _ _ h => h) (Or.inl ⟨by rfl, ?hy23⟩) (by assumption) ?_
            case hy23 => intro w hSw; obtain rfl := hSw; go_simp; try with_reducible rfl
            simp only [Act.put, List.getElem_toArray, List.getElem_cons_zero, List.setIfInBounds_toArray, List.set_cons_zero, List.set_cons_succ]
            refine wpAnyN_take (i := 1) (v := ?v24) rfl (by kernel_rfl) (by kernel_rfl) (by kernel_rfl) (by kernel_rfl) (fun _ _ _ h => h) (Or.inl ⟨by rfl, ?hy24⟩) (by assumption) ?_
            case hy24 => intro w hSw; obtain rfl := hSw; go_simp; try with_reducible rfl
            simp only [Act.put, List.getElem_toArray, List.getElem_cons_zero, List.getElem_cons_succ, List.setIfInBounds_toArray, List.set_cons_zero, List.set_cons_succ]
            refine wpAnyN_take (i := 2) (v := ?v25) rfl (by kernel_rfl) (by kernel_rfl) (by kernel_rfl) (by kernel_rfl) (fun _ _ _ h => h) (Or.inl ⟨by rfl, ?hy25⟩) (by assumption) ?_
            case hy25 => intro w hSw; obtain rfl := hSw; go_simp; try with_reducible rfl
            simp only [Act.put, List.getElem_toArray, List.getElem_cons_zero, List.getElem_cons_succ, List.setIfInBounds_toArray, List.set_cons_zero, List.set_cons_succ]
            refine wpAnyN_take (i := 3) (v := ?v26) rfl (by kernel_rfl) (by kernel_rfl) (by kernel_rfl) (by kernel_rfl) (fun _ _ _ h => h) (Or.inl ⟨by rfl, ?hy26⟩) (by assumption) ?_
            case hy26 => intro w hSw; obtain rfl := hSw; go_simp; try with_reducible rfl
            simp only [Act.put, List.getElem_toArray, List.getElem_cons_zero, List.getElem_cons_succ, List.setIfInBounds_toArray, List.set_cons_zero, List.set_cons_succ]
            refine wpAnyN_take (i := 4) (v := ?v27) rfl (by kernel_rfl) (by kernel_rfl) (by kernel_rfl) (by kernel_rfl) (fun _ _ _ h => h) (Or.inl ⟨by rfl, ?hy27⟩) (by assumption) ?_
            case hy27 => intro w hSw; obtain rfl := hSw; go_simp; try with_reducible rfl
            simp only [Act.put, List.getElem_toArray, List.getElem_cons_zero, List.getElem_cons_succ, List.setIfInBounds_toArray, List.set_cons_zero, List.set_cons_succ]
            refine wpAnyN_take (i := 5) (v := ?v28) rfl (by kernel_rfl) (by kernel_rfl) (by kernel_rfl) (by kernel_rfl) (fun _ _ _ h => h) (Or.inl ⟨by rfl, ?hy28⟩) (by assumption) ?_
            case hy28 => intro w hSw; obtain rfl := hSw; go_simp; try with_reducible rfl
            simp only [Act.put, List.getElem_toArray, List.getElem_cons_zero, List.getElem_cons_succ, List.setIfInBounds_toArray, List.set_cons_zero, List.set_cons_succ]
            refine wpAnyN_take (i := 6) (v := ?v29) rfl (by kernel_rfl) (by kernel_rfl) (by kernel_rfl) (by kernel_rfl) (fun _ _ _ h => h) (Or.inl ⟨by rfl, ?hy29⟩) (by assumption) ?_
            case hy29 => intro w hSw; obtain rfl := hSw; go_simp; try with_reducible rfl
            simp only [Act.put, List.getElem_toArray, List.getElem_cons_zero, List.getElem_cons_succ, List.setIfInBounds_toArray, List.set_cons_zero, List.set_cons_succ]
            refine wpAnyN_take (i := 7) (v := ?v30) rfl (by kernel_rfl) (by kernel_rfl) (by kernel_rfl) (by kernel_rfl) (fun _ _ _ h => h) (Or.inl ⟨by rfl, ?hy30⟩) (by assumption) ?_
            case hy30 => intro w hSw; obtain rfl := hSw; go_simp; try with_reducible rfl
            simp only [Act.put, List.getElem_toArray, List.getElem_cons_zero, List.getElem_cons_succ, List.setIfInBounds_toArray, List.set_cons_zero, List.set_cons_succ]
            refine wpAnyN_take (i := 8) (v := ?v31) rfl (by kernel_rfl) (by kernel_rfl) (by kernel_rfl) (by kernel_rfl) (fun _ _ _ h => h) (Or.inl ⟨by rfl, ?hy31⟩) (by assumption) ?_
            case hy31 => intro w hSw; obtain rfl := hSw; go_simp; try with_reducible rfl
            simp only [Act.put, List.getElem_toArray, List.getElem_cons_zero, List.getElem_cons_succ, List.setIfInBounds_toArray, List.set_cons_zero, List.set_cons_succ]
            refine wpAnyN_take (i := 9) (v := ?v32) rfl (by kernel_rfl) (by kernel_rfl) (by kernel_rfl) (by kernel_rfl) (fun _ _ _ h => h) (Or.inl ⟨by rfl, ?hy32⟩) (by assumption) ?_
            case hy32 => intro w hSw; obtain rfl := hSw; go_simp; try with_reducible rfl
            simp only [Act.put, List.getElem_toArray, List.getElem_cons_zero, List.getElem_cons_succ, List.setIfInBounds_toArray, List.set_cons_zero, List.set_cons_succ]
            refine wpAnyN_one (i := 10) (by kernel_rfl) rfl (fun K hK => ?_)
            simp only [List.getElem_toArray, List.getElem_cons_zero, List.getElem_cons_succ]
            go_simp
            refine (greater_any _ _ _).mono ?_
            rintro e w9 ⟨rfl, h9⟩
            obtain rfl := h9.symm
            clear h9
            refine hK _ _ (fun _ => hS0) ?_
            (try simp only [Act.put, List.setIfInBounds_toArray, List.set_cons_zero, List.set_cons_succ])
            refine wpAnyN_take (i := 11) (v := ?v33) rfl (by kernel_rfl) (by kernel_rfl) (by kernel_rfl) (by kernel_rfl) (fun _ _ _ h => h) (Or.inl ⟨by rfl, ?hy33⟩) (by assumption) ?_
            case hy33 => intro w hSw; obtain rfl := hSw; go_simp; try with_reducible rfl
            simp only [Act.put, List.getElem_toArray, List.getElem_cons_zero, List.getElem_cons_succ, List.setIfInBounds_toArray, List.set_cons_zero, List.set_cons_succ]
            refine wpAnyN_take (i := 12) (v := ?v34) rfl (by kernel_rfl) (by kernel_rfl) (by kernel_rfl) (by kernel_rfl) (fun _ _ _ h => h) (Or.inl ⟨by rfl, ?hy34⟩) (by assumption) ?_
            case hy34 => intro w hSw; obtain rfl := hSw; go_simp; try with_reducible rfl
            simp only [Act.put, List.getElem_toArray, List.getElem_cons_zero, List.getElem_cons_succ, List.setIfInBounds_toArray, List.set_cons_zero, List.set_cons_succ]
            refine wpAnyN_take (i := 13) (v := ?v35) rfl (by kernel_rfl) (by kernel_rfl) (by kernel_rfl) (by kernel_rfl) (fun _ _ _ h => h) (Or.inl ⟨by rfl, ?hy35⟩) (by assumption) ?_
            case hy35 => intro w hSw; obtain rfl := hSw; go_simp; try with_reducible rfl
            simp only [Act.put, List.getElem_toArray, List.getElem_cons_zero, List.getElem_cons_succ, List.setIfInBounds_toArray, List.set_cons_zero, List.set_cons_succ]
            refine wpAnyN_done (by kernel_rfl) ?_ _
            go_wp2_with fail
            go_ret
            refine ⟨VRet.of ?_, bNext HB.out HB3.out⟩
            constructor
            · intro h
              refine ⟨by omega, by omega, HALL.out, hch.out, p0, ?_⟩
              rw [← HH.out]
              simpa using h
            · intro g
              have h := g.len
              rw [← HH.out] at h
              simpa using h
          · have hno : Hid (¬ Good s) := Lib.hid fun g => p0 g.e
            refine wp_region_N (fun w' => w' = X0) (fun _ => true) (by kernel_rfl) ?_
            rw [← HX0.out]
            clear HX0 hd0
            have hS0 : (fun w' => w' = X0) X0 := rfl
            refine wpAnyN_take (i := 0) (v := ?v36) rfl (by kernel_rfl) (by kernel_rfl) (by kernel_rfl) (by kernel_rfl) (fun _ _ _ h => h) (Or.inl ⟨by rfl, ?hy36⟩) (by assumption) ?_
            case hy36 => intro w hSw; obtain rfl := hSw; go_simp; try with_reducible rfl
            simp only [Act.put, List.getElem_toArray, List.getElem_cons_zero, List.setIfInBounds_toArray, List.set_cons_zero, List.set_cons_succ]
            refine wpAnyN_take (i := 1) (v := ?v37) rfl (by kernel_rfl) (by kernel_rfl) (by kernel_rfl) (by kernel_rfl) (fun _ _ _ h => h) (Or.inl ⟨by rfl, ?hy37⟩) (by assumption) ?_
            case hy37 => intro w hSw; obtain rfl := hSw; go_simp; try with_reducible rfl
            simp only [Act.put, List.getElem_toArray, List.getElem_cons_zero, List.getElem_cons_succ, List.setIfInBounds_toArray, List.set_cons_zero, List.set_cons_succ]
            refine wpAnyN_take (i := 2) (v := ?v38) rfl (by kernel_rfl) (by kernel_rfl) (by kernel_rfl) (by kernel_rfl) (fun _ _ _ h => h) (Or.inl ⟨by rfl, ?hy38⟩) (by assumption) ?_
            case hy38 => intro w hSw; obtain rfl := hSw; go_simp; try with_reducible rfl
            simp only [Act.put, List.getElem_toArray, List.getElem_cons_zero, List.getElem_cons_succ, List.setIfInBounds_toArray, List.set_cons_zero, List.set_cons_succ]
            refine wpAnyN_take (i := 3) (v := ?v39) rfl (by kernel_rfl) (by kernel_rfl) (by kernel_rfl) (by kernel_rfl) (fun _ _ _ h => h) (Or.inl ⟨by rfl, ?hy39⟩) (by assumption) ?_
            case hy39 => intro w hSw; obtain rfl := hSw; go_simp; try with_reducible rfl
            simp only [Act.put, List.getElem_toArray, List.getElem_cons_zero, List.getElem_cons_succ, List.setIfInBounds_toArray, List.set_cons_zero, List.set_cons_succ]
            refine wpAnyN_take (i := 4) (v := undef) rfl (by kernel_rfl) (by kernel_rfl) (by kernel_rfl) (by kernel_rfl) (fun _ _ _ h => h) (Or.inr ⟨by rfl, rfl⟩) (by assumption) ?_
            simp only [Act.put, List.getElem_toArray, List.getElem_cons_zero, List.getElem_cons_succ, List.setIfInBounds_toArray, List.set_cons_zero, List.set_cons_succ]
            refine wpAnyN_take (i := 5) (v := undef) rfl (by kernel_rfl) (by kernel_rfl) (by kernel_rfl) (by kernel_rfl) (fun _ _ _ h => h) (Or.inr ⟨by rfl, rfl⟩) (by assumption) ?_
            simp only [Act.put, List.getElem_toArray, List.getElem_cons_zero, List.getElem_cons_succ, List.setIfInBounds_toArray, List.set_cons_zero, List.set_cons_succ]
            refine wpAnyN_take (i := 6) (v := undef) rfl (by kernel_rfl) (by kernel_rfl) (by kernel_rfl) (by kernel_rfl) (fun _ _ _ h => h) (Or.inr ⟨by rfl, rfl⟩) (by assumption) ?_
            simp only [Act.put, List.getElem_toArray, List.getElem_cons_zero, List.getElem_cons_succ, List.setIfInBounds_toArray, List.set_cons_zero, List.set_cons_succ]
            refine wpAnyN_take (i := 7) (v := undef) rfl (by kernel_rfl) (by kernel_rfl) (by kernel_rfl) (by kernel_rfl) (fun _ _ _ h => h) (Or.inr ⟨by rfl, rfl⟩) (by assumption) ?_
            simp only [Act.put, List.getElem_toArray, List.getElem_cons_zero, List.getElem_cons_succ, List.setIfInBounds_toArray, List.set_cons_zero, List.set_cons_succ]
            refine wpAnyN_take (i := 8) (v := undef) rfl (by kernel_rfl) (by kernel_rfl) (by kernel_rfl) (by kernel_rfl) (fun _ _ _ h => h) (Or.inr ⟨by rfl, rfl⟩) (by assumption) ?_
            simp only [Act.put, List.getElem_toArray, List.getElem_cons_zero, List.getElem_cons_succ, List.setIfInBounds_toArray, List.set_cons_zero, List.set_cons_succ]
            refine wpAnyN_take (i := 9) (v := undef) rfl (by kernel_rfl) (by kernel_rfl) (by kernel_rfl) (by kernel_rfl) (fun _ _ _ h => h) (Or.inr ⟨by rfl, rfl⟩) (by assumption) ?_
            simp only [Act.put, List.getElem_toArray, List.getElem_cons_zero, List.getElem_cons_succ, List.setIfInBounds_toArray, List.set_cons_zero, List.set_cons_succ]
            refine wpAnyN_one (i := 10) (by kernel_rfl) rfl (fun K hK => ?_)
            simp only [List.getElem_toArray, List.getElem_cons_zero, List.getElem_cons_succ]
            go_simp
            refine hK _ _ (fun _ => hS0) ?_
            (try simp only [Act.put, List.setIfInBounds_toArray, List.set_cons_zero, List.set_cons_succ])
            refine wpAnyN_take (i := 11) (v := undef) rfl (by kernel_rfl) (by kernel_rfl) (by kernel_rfl) (by kernel_rfl) (fun _ _ _ h => h) (Or.inr ⟨by rfl, rfl⟩) (by assumption) ?_
            simp only [Act.put, List.getElem_toArray, List.getElem_cons_zero, List.getElem_cons_succ, List.setIfInBounds_toArray, List.set_cons_zero, List.set_cons_succ]
            refine wpAnyN_take (i := 12) (v := ?v47) rfl (by kernel_rfl) (by kernel_rfl) (by kernel_rfl) (by kernel_rfl) (fun _ _ _ h => h) (Or.inl ⟨by rfl, ?hy47⟩) (by assumption) ?_
            case hy47 => intro w hSw; obtain rfl := hSw; go_simp; try with_reducible rfl
            simp only [Act.put, List.getElem_toArray, List.getElem_cons_zero, List.getElem_cons_succ, List.setIfInBounds_toArray, List.set_cons_zero, List.set_cons_succ]
            refine wpAnyN_take (i := 13) (v := ?v48) rfl (by kernel_rfl) (by kernel_rfl) (by kernel_rfl) (by kernel_rfl) (fun _ _ _ h => h) (Or.inl ⟨by rfl, ?hy48⟩) (by assumption) ?_
            case hy48 => intro w hSw; obtain rfl := hSw; go_simp; try with_reducible rfl
            simp only [Act.put, List.getElem_toArray, List.getElem_cons_zero, List.getElem_cons_succ, List.setIfInBounds_toArray, List.set_cons_zero, List.set_cons_succ]
            refine wpAnyN_done (by kernel_rfl) ?_ _
            go_wp2_with fail
            go_ret
            exact ⟨VRet.no hno.out, bNext HB.out HB3.out⟩
end Go.Proofs.Ytpkpffnabcgcbaa
