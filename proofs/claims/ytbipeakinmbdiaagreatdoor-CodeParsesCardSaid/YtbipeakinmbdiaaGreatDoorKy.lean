/-
  Walk: a step of the check of a block (the reference). Walks: Begin and Valid (the reference).
-/
import Derived.Test.YtbipeakinmbdiaaGreatDoorKg
import Derived.Outline
import Derived.Test.YtbipeakinmbdiaaGreatDoorKs
namespace Go.Proofs.YtbipeakinmbdiaaGreatDoor
section
open Go.RowKit

theorem isarg_any (op : Int) (w : World) : Calls Tryz.prog 124 #[.int .i64 op] w fun e w' => e = .returned (.bool (isArg op)) ∧ w' = w := by
  go_enter Tryz.func124, Tryz.ntmps124
  go_wp2_with fail
  all_goals go_ret
  all_goals refine ⟨ret_bool ?_, rfl⟩
  all_goals first | (simp [isArg, *]; done) | (simp [isArg, *]; omega)
theorem op6_r {x : In} (hx : fo x = true) (h : x.op = 6) : x.r ≠ 0 ∧ -4096 ≤ x.r ∧ x.r ≤ 4096 := by
  have hw := (fof hx).wr x.r
  obtain ⟨op, r, a, n, nm, ar⟩ := x
  have h' : op = 6 := h
  subst h'
  exact hw (by rw [wr6, if_pos hx]; simp)
theorem ite_none2 {p q : Prop} [Decidable p] [Decidable q] {α : Type} {r : Option α} (hq : q) : (if p then none else if q then none else r) = none := by
  by_cases hp : p
  · rw [if_pos hp]
  · rw [if_neg hp, if_pos hq]
theorem step_rd {c : Ck} {x : In} (fi la : Bool) (h : (rdOf x).all c.d = false) : stepP c x fi la = none := ite_none2 h
theorem wr_one (c : Ck) (r : Int) : wrP c [r] = if exP c r = true then some { c with d := fun x => c.d x || x == r } else none := by
  unfold wrP
  have e : (fun x => c.d x || [r].contains x) = fun x => c.d x || x == r := by funext x; rw [List.contains_cons, List.contains_nil, Bool.or_false]
  rw [e]
  simp
theorem call_del (r : Int) (j : Nat) (h1 : 1 ≤ j) (b : Bool) : ((b && !(decide (0 < r) && decide (r < (j : Int)))) && r != (j : Int)) = (b && !(decide (0 < r) && decide (r < ((j + 1 : Nat) : Int)))) := by
  cases b
  · rfl
  · by_cases e : r = (j : Int)
    · subst e
      have a1 : decide (0 < (j : Int)) = true := by simp; omega
      have a2 : decide ((j : Int) < ((j + 1 : Nat) : Int)) = true := by simp; omega
      rw [a1, a2]
      simp
    · have a0 : (r != (j : Int)) = true := by simpa using e
      have a3 : decide (r < ((j + 1 : Nat) : Int)) = decide (r < (j : Int)) := by rw [decide_eq_decide]; omega
      rw [a0, a3, Bool.and_true]
/-- an argument instruction is right -/
def okA (c : Ck) (x : In) (la : Bool) : Bool := !((x.op == 6 && !exP c x.r) || decide (c.args - argN x < 0) || la)
theorem okA_step {c : Ck} {x : In} {fi la : Bool} (hx : fo x = true) (ha : isArg x.op = true) (hp : 0 < c.args) (hd : (rdOf x).all c.d = true) :
    stepP c x fi la = if okA c x la = true then some (endP { c with args := c.args - argN x, d := fun y => c.d y || (wrOf x).contains y }) else none := by
  have hend : isEnd x.op = false := by
    unfold isArg at ha
    simp at ha
    unfold isEnd
    have h1 : (x.op == 20) = false := by simp; omega
    have h2 : (x.op == 21) = false := by simp; omega
    have h3 : (x.op == 25) = false := by simp; omega
    rw [h1, h2, h3]; rfl
  unfold stepP
  rw [ha, hend, if_neg (show ¬ ((rdOf x).all c.d = false) by rw [hd]; simp)]
  have h0 : decide (0 < c.args) = true := by simpa using hp
  rw [h0]
  cases la with
  | true => unfold okA; simp
  | false =>
    rw [if_neg (by simp), if_pos rfl]
    unfold argP okA
    by_cases hlt : c.args - argN x < 0
    · rw [if_pos hlt]; simp [hlt]
    · rw [if_neg hlt]
      have hw : (wrOf x).all (exP { c with args := c.args - argN x }) = !(x.op == 6 && !exP c x.r) := by
        obtain ⟨op, r, a, n, nm, ar⟩ := x
        rcases op_cases (fo_op hx) with rfl | rfl | rfl | rfl | rfl | rfl | rfl | rfl | rfl | rfl | rfl | rfl | rfl | rfl | rfl | rfl | rfl | rfl | rfl | rfl | rfl | rfl | rfl | rfl | rfl
        all_goals first
          | (exfalso; revert ha; simp [isArg]; done)
          | (rw [wr6, if_pos hx]; simp [exP]; done)
          | (rw [wr7, if_pos hx]; rfl)
          | (rw [wr8, if_pos hx]; rfl)
          | (rw [wr9, if_pos hx]; rfl)
          | (rw [wr10, if_pos hx]; rfl)
      unfold wrP
      rw [hw]
      simp only [hlt, decide_false, Bool.or_false]
      cases h6 : (x.op == 6 && !exP c x.r) with
      | true => simp
      | false => simp
theorem okA_wr {x : In} (hx : fo x = true) (ha : isArg x.op = true) : (∀ y, (wrOf x).contains y = (x.op == 6 && y == x.r)) := by
  intro y
  obtain ⟨op, r, a, n, nm, ar⟩ := x
  rcases op_cases (fo_op hx) with rfl | rfl | rfl | rfl | rfl | rfl | rfl | rfl | rfl | rfl | rfl | rfl | rfl | rfl | rfl | rfl | rfl | rfl | rfl | rfl | rfl | rfl | rfl | rfl | rfl
  all_goals first
    | (exfalso; revert ha; simp [isArg]; done)
    | (rw [wr6, if_pos hx]; rw [Bool.eq_iff_iff]; simp; done)
    | (rw [wr7, if_pos hx]; simp; done)
    | (rw [wr8, if_pos hx]; simp; done)
    | (rw [wr9, if_pos hx]; simp; done)
    | (rw [wr10, if_pos hx]; simp; done)
set_option maxRecDepth 100000 in
set_option maxHeartbeats 4000000 in
theorem Step_any (c : Ck) (x : In) (fi la : Bool) (k g : Nat) (w : World) (hc : CkOk c) (hx : fo x = true) (h : CkAt (.int .i64 1) 150 w k g c) :
    Calls Tryz.prog 90 #[.pointer (some ⟨k, 0, none⟩), x.v, .bool fi, .bool la] w fun e w' => e = .returned (.bool (stepP c x fi la).isSome) ∧ (∀ c', stepP c x fi la = some c' → CkAt (.int .i64 1) 150 w' k g c') ∧ KeptK k g w w' := by
  have HC := Lib.hid hc
  have HFO := Lib.hid hx
  have HF := Lib.hid (fof hx)
  have hne := h.ne
  have hkl := h.1.lt
  have hgl := h.2.lt
  obtain ⟨w0, hw0⟩ : ∃ X, Hid (X = w.alloc (.cells #[.int .i64 x.op, .int .i64 x.r, .int .i64 x.a, .int .i64 x.n, .string x.nm, .int .i64 x.ar] 34)) := ⟨_, rfl⟩
  obtain ⟨q, hq⟩ : ∃ q, Hid (q = w.heap.size) := ⟨_, rfl⟩
  have HX := Lib.hid (show BoxI w0 q x by rw [hw0.out, hq.out]; exact BoxI.new w x)
  have HK0 := Lib.hid (show KeptK k g w w0 by rw [hw0.out]; exact KeptK.of (bAlloc _ _))
  have H0 := Lib.hid (show CkAt (.int .i64 1) 150 w0 k g c by rw [hw0.out]; exact h.next (bAlloc _ _))
  have hqk : q ≠ k := by rw [hq.out]; omega
  have hqg : q ≠ g := by rw [hq.out]; omega
  have hqw : w.heap.size ≤ q := by rw [hq.out]; exact Nat.le_refl _
  clear h hc hx
  go_enter Tryz.func90, Tryz.ntmps90
  go_upto_region 1 with fail
  rw [← hw0.out, ← hq.out]
  clear hw0 hq
  obtain ⟨ar, har⟩ : ∃ b, Hid (b = isArg x.op) := ⟨_, rfl⟩
  obtain ⟨pa, hpa⟩ : ∃ b, Hid (b = decide (0 < c.args)) := ⟨_, rfl⟩
  obtain ⟨D, hD⟩ : ∃ X, Hid (X = w0.drew) := ⟨_, rfl⟩
  have hd : Below w0.heap.size w0 D := by rw [hD.out]; exact bDrewN (Below.refl _ _) 1
  refine wp_region_N (fun w' => Below w0.heap.size w0 w') (fun _ => true) (by kernel_rfl) ?_
  rw [← hD.out]
  have hS0 := hd
  have HD := Lib.hid hd
  clear hD
  refine wpAnyN_take (i := 0) (v := ?v1) rfl (by kernel_rfl) (by kernel_rfl) (by kernel_rfl) (by kernel_rfl) (fun _ _ _ h => h) (Or.inl ⟨by rfl, ?hy1⟩) (by assumption) ?_
  case hy1 => intro w hSw; (try dsimp only at hSw); go_simp; try with_reducible rfl
  simp only [Act.put, List.getElem_toArray, List.getElem_cons_zero, List.setIfInBounds_toArray, List.set_cons_zero, List.set_cons_succ]
  refine wpAnyN_take (i := 1) (v := ?v2) rfl (by kernel_rfl) (by kernel_rfl) (by kernel_rfl) (by kernel_rfl) (fun _ _ _ h => h) (Or.inl ⟨by rfl, ?hy2⟩) (by assumption) ?_
  case hy2 => intro w hSw; have hbd := (H0.out.next hSw).cells; obtain ⟨c0, c1, c2, c3, c4, cl⟩ := hbd; obtain ⟨x0, x1, x2, x3, x4, x5⟩ := BoxI.cells (BlkNext HX.out hSw); go_simp; try with_reducible rfl
  simp only [Act.put, List.getElem_toArray, List.getElem_cons_zero, List.getElem_cons_succ, List.setIfInBounds_toArray, List.set_cons_zero, List.set_cons_succ]
  refine wpAnyN_take (i := 3) (v := ?v3) rfl (by kernel_rfl) (by kernel_rfl) (by kernel_rfl) (by kernel_rfl) (fun _ _ _ h => h) (Or.inl ⟨by rfl, ?hy3⟩) (by assumption) ?_
  case hy3 => intro w hSw; (try dsimp only at hSw); go_simp; try with_reducible rfl
  simp only [Act.put, List.getElem_toArray, List.getElem_cons_zero, List.getElem_cons_succ, List.setIfInBounds_toArray, List.set_cons_zero, List.set_cons_succ]
  refine wpAnyN_take (i := 4) (v := ?v4) rfl (by kernel_rfl) (by kernel_rfl) (by kernel_rfl) (by kernel_rfl) (fun _ _ _ h => h) (Or.inl ⟨by rfl, ?hy4⟩) (by assumption) ?_
  case hy4 => intro w hSw; have hbd := (H0.out.next hSw).cells; obtain ⟨c0, c1, c2, c3, c4, cl⟩ := hbd; obtain ⟨x0, x1, x2, x3, x4, x5⟩ := BoxI.cells (BlkNext HX.out hSw); go_simp; try with_reducible rfl
  simp only [Act.put, List.getElem_toArray, List.getElem_cons_zero, List.getElem_cons_succ, List.setIfInBounds_toArray, List.set_cons_zero, List.set_cons_succ]
  refine wpAnyN_take (i := 5) (v := ?v5) rfl (by kernel_rfl) (by kernel_rfl) (by kernel_rfl) (by kernel_rfl) (fun _ _ _ h => h) (Or.inl ⟨by rfl, ?hy5⟩) (by assumption) ?_
  case hy5 => intro w hSw; (try dsimp only at hSw); go_simp; try with_reducible rfl
  simp only [Act.put, List.getElem_toArray, List.getElem_cons_zero, List.getElem_cons_succ, List.setIfInBounds_toArray, List.set_cons_zero, List.set_cons_succ]
  refine wpAnyN_take (i := 6) (v := ?v6) rfl (by kernel_rfl) (by kernel_rfl) (by kernel_rfl) (by kernel_rfl) (fun _ _ _ h => h) (Or.inl ⟨by rfl, ?hy6⟩) (by assumption) ?_
  case hy6 => intro w hSw; have hbd := (H0.out.next hSw).cells; obtain ⟨c0, c1, c2, c3, c4, cl⟩ := hbd; obtain ⟨x0, x1, x2, x3, x4, x5⟩ := BoxI.cells (BlkNext HX.out hSw); go_simp; try with_reducible rfl
  simp only [Act.put, List.getElem_toArray, List.getElem_cons_zero, List.getElem_cons_succ, List.setIfInBounds_toArray, List.set_cons_zero, List.set_cons_succ]
  refine wpAnyN_take (i := 7) (v := ?v7) rfl (by kernel_rfl) (by kernel_rfl) (by kernel_rfl) (by kernel_rfl) (fun _ _ _ h => h) (Or.inl ⟨by rfl, ?hy7⟩) (by assumption) ?_
  case hy7 => intro w hSw; (try dsimp only at hSw); go_simp; try with_reducible rfl
  simp only [Act.put, List.getElem_toArray, List.getElem_cons_zero, List.getElem_cons_succ, List.setIfInBounds_toArray, List.set_cons_zero, List.set_cons_succ]
  refine wpAnyN_one (i := 2) (by kernel_rfl) rfl (fun K hK => ?_)
  simp only [List.getElem_toArray, List.getElem_cons_zero, List.getElem_cons_succ]
  go_simp
  refine (isarg_any x.op D).mono ?_
  rintro e w1 ⟨rfl, rfl⟩
  refine hK _ _ (fun _ => hd) ?_
  rw [← har.out, ← hpa.out]
  (try simp only [Act.put, List.setIfInBounds_toArray, List.set_cons_zero, List.set_cons_succ])
  refine wpAnyN_take (i := 8) (v := ?v8) rfl (by kernel_rfl) (by kernel_rfl) (by kernel_rfl) (by kernel_rfl) (fun _ _ _ h => h) (Or.inl ⟨by rfl, ?hy8⟩) (by assumption) ?_
  case hy8 => intro w hSw; (try dsimp only at hSw); go_simp; try with_reducible rfl
  simp only [Act.put, List.getElem_toArray, List.getElem_cons_zero, List.getElem_cons_succ, List.setIfInBounds_toArray, List.set_cons_zero, List.set_cons_succ]
  refine wpAnyN_done (by kernel_rfl) ?_ _
  clear hS0 hd
  have H1 := Lib.hid (H0.out.next HD.out)
  have HK1 := Lib.hid (HK0.out.trans (KeptK.of HD.out))
  have HX1 := Lib.hid (BlkNext HX.out HD.out)
  clear H0 HK0 HX HD
  obtain ⟨z, hz⟩ : ∃ z, Hid (z = (!(ar == pa))) := ⟨_, rfl⟩
  rw [← hz.out]
  cases z
  rotate_left
  · have HE := Lib.hid (show stepP c x fi la = none by unfold stepP; rw [if_pos]; left; rw [← har.out, ← hpa.out]; exact hz.out.symm)
    go_wp2_with fail
    go_ret
    exact ⟨ret_bool (by rw [HE.out]; rfl), fun c' h => (by rw [HE.out] at h; cases h), HK1.out⟩
  · have HAP := Lib.hid (show ar = pa by have h := hz.out; revert h; cases ar <;> cases pa <;> simp)
    clear hz
    obtain ⟨x0, x1, x2, x3, x4, x5⟩ := BoxI.cells HX1.out
    go_upto_region 3 with fail
    go_wp2_with fail
    refine (Reads_any x w1).mono ?_
    rintro e w2 ⟨v, rfl, ho⟩
    obtain ⟨A, cp, rfl, hrow⟩ := rowI_of (k := k) (g := g) ho HF.out.rl H1.out.1.lt H1.out.2.lt
    have H2 := Lib.hid (H1.out.next ho.2)
    have HK2 := Lib.hid (HK1.out.trans (KeptK.of ho.2))
    have HX2 := Lib.hid (BlkNext HX1.out ho.2)
    have HROW := Lib.hid hrow
    have hlen := hrow.1.2
    obtain ⟨n, hn⟩ : ∃ n, Hid (n = (rdOf x).length) := ⟨_, rfl⟩
    rw [← hn.out] at HROW hlen ⊢
    clear ho hrow x0 x1 x2 x3 x4 x5 H1 HK1 HX1
    go_wp2_with fail
    go_loopw [10] (fun i wr => ∃ j : Nat, i = .int .i64 j ∧ j ≤ n ∧ Hid (Below w2.heap.size w2 wr) ∧ Hid (((rdOf x).take j).all c.d = true)) (fun i _ => n - (intOf i).toNat)
    case atStart => exact ⟨0, rfl, Nat.zero_le _, Lib.hid (Below.refl _ _), Lib.hid rfl⟩
    case round =>
      obtain ⟨j, rfl, hj, HBW, HJ⟩ := hrel
      have H3 := Lib.hid (H2.out.next HBW.out)
      have HK3 := Lib.hid (HK2.out.trans (KeptK.of HBW.out))
      have HX3 := Lib.hid (BlkNext HX2.out HBW.out)
      by_cases hlt : j < n
      · obtain ⟨b, off, rfl, hbl, hbk, hbg, hcell⟩ := HROW.out.2 (by omega)
        obtain ⟨y, hy⟩ : ∃ y, (rdOf x)[j]? = some y := ⟨_, List.getElem?_eq_getElem (by rw [HROW.out.1.1]; exact hlt)⟩
        have HC1 := Lib.hid (hcell j y hy)
        have HY := Lib.hid hy
        have HBL := Lib.hid hbl
        have hlj : decide ((j : Int) < (n : Int)) = true := by simp; omega
        clear hcell hy hbk hbg hbl
        go_upto_region 7 with fail
        obtain ⟨D2, hD2⟩ : ∃ X, Hid (X = wr.drew) := ⟨_, rfl⟩
        have hd : Below w2.heap.size w2 D2 := by rw [hD2.out]; exact bDrewN HBW.out 1
        refine wp_region_N (fun w' => Below w2.heap.size w2 w') (fun _ => true) (by kernel_rfl) ?_
        rw [← hD2.out]
        clear hD2
        have HD2 := Lib.hid hd
        refine wpAnyN_take (i := 0) (v := ?v9) rfl (by kernel_rfl) (by kernel_rfl) (by kernel_rfl) (by kernel_rfl) (fun _ _ _ h => h) (Or.inl ⟨by rfl, ?hy9⟩) (by assumption) ?_
        case hy9 => intro w hSw; (try dsimp only at hSw); go_simp; try with_reducible rfl
        simp only [Act.put, List.getElem_toArray, List.getElem_cons_zero, List.setIfInBounds_toArray, List.set_cons_zero, List.set_cons_succ]
        refine wpAnyN_take (i := 1) (v := ?v10) rfl (by kernel_rfl) (by kernel_rfl) (by kernel_rfl) (by kernel_rfl) (fun _ _ _ h => h) (Or.inl ⟨by rfl, ?hy10⟩) (by assumption) ?_
        case hy10 => intro w hSw; (try dsimp only at hSw); go_simp; try with_reducible rfl
        simp only [Act.put, List.getElem_toArray, List.getElem_cons_zero, List.getElem_cons_succ, List.setIfInBounds_toArray, List.set_cons_zero, List.set_cons_succ]
        refine wpAnyN_take (i := 2) (v := ?v11) rfl (by kernel_rfl) (by kernel_rfl) (by kernel_rfl) (by kernel_rfl) (fun _ _ _ h => h) (Or.inl ⟨by rfl, ?hy11⟩) (by assumption) ?_
        case hy11 => intro w hSw; (try dsimp only at hSw); go_simp; try with_reducible rfl
        simp only [Act.put, List.getElem_toArray, List.getElem_cons_zero, List.getElem_cons_succ, List.setIfInBounds_toArray, List.set_cons_zero, List.set_cons_succ]
        refine wpAnyN_take (i := 3) (v := ?v12) rfl (by kernel_rfl) (by kernel_rfl) (by kernel_rfl) (by kernel_rfl) (fun _ _ _ h => h) (Or.inl ⟨by rfl, ?hy12⟩) (by assumption) ?_
        case hy12 => intro w hSw; have e1 := ((bcell hSw).1 b (off + j) HBL.out).trans HC1.out; have e2 := Nat.lt_of_lt_of_le HBL.out hSw.size; have hh := (H2.out.next hSw); obtain ⟨c0, c1, c2, c3, c4, cl⟩ := hh.cells; have hlk := hh.2.lookN y; clear hh; go_simp; try with_reducible rfl
        simp only [Act.put, List.getElem_toArray, List.getElem_cons_zero, List.getElem_cons_succ, List.setIfInBounds_toArray, List.set_cons_zero, List.set_cons_succ]
        refine wpAnyN_take (i := 4) (v := ?v13) rfl (by kernel_rfl) (by kernel_rfl) (by kernel_rfl) (by kernel_rfl) (fun _ _ _ h => h) (Or.inl ⟨by rfl, ?hy13⟩) (by assumption) ?_
        case hy13 => intro w hSw; (try dsimp only at hSw); go_simp; try with_reducible rfl
        simp only [Act.put, List.getElem_toArray, List.getElem_cons_zero, List.getElem_cons_succ, List.setIfInBounds_toArray, List.set_cons_zero, List.set_cons_succ]
        refine wpAnyN_take (i := 5) (v := ?v14) rfl (by kernel_rfl) (by kernel_rfl) (by kernel_rfl) (by kernel_rfl) (fun _ _ _ h => h) (Or.inl ⟨by rfl, ?hy14⟩) (by assumption) ?_
        case hy14 => intro w hSw; (try dsimp only at hSw); go_simp; try with_reducible rfl
        simp only [Act.put, List.getElem_toArray, List.getElem_cons_zero, List.getElem_cons_succ, List.setIfInBounds_toArray, List.set_cons_zero, List.set_cons_succ]
        refine wpAnyN_take (i := 6) (v := ?v15) rfl (by kernel_rfl) (by kernel_rfl) (by kernel_rfl) (by kernel_rfl) (fun _ _ _ h => h) (Or.inl ⟨by rfl, ?hy15⟩) (by assumption) ?_
        case hy15 => intro w hSw; (try dsimp only at hSw); go_simp; try with_reducible rfl
        simp only [Act.put, List.getElem_toArray, List.getElem_cons_zero, List.getElem_cons_succ, List.setIfInBounds_toArray, List.set_cons_zero, List.set_cons_succ]
        refine wpAnyN_take (i := 7) (v := ?v16) rfl (by kernel_rfl) (by kernel_rfl) (by kernel_rfl) (by kernel_rfl) (fun _ _ _ h => h) (Or.inl ⟨by rfl, ?hy16⟩) (by assumption) ?_
        case hy16 => intro w hSw; have e1 := ((bcell hSw).1 b (off + j) HBL.out).trans HC1.out; have e2 := Nat.lt_of_lt_of_le HBL.out hSw.size; have hh := (H2.out.next hSw); obtain ⟨c0, c1, c2, c3, c4, cl⟩ := hh.cells; have hlk := hh.2.lookN y; clear hh; go_simp; try with_reducible rfl
        simp only [Act.put, List.getElem_toArray, List.getElem_cons_zero, List.getElem_cons_succ, List.setIfInBounds_toArray, List.set_cons_zero, List.set_cons_succ]
        refine wpAnyN_take (i := 8) (v := ?v17) rfl (by kernel_rfl) (by kernel_rfl) (by kernel_rfl) (by kernel_rfl) (fun _ _ _ h => h) (Or.inl ⟨by rfl, ?hy17⟩) (by assumption) ?_
        case hy17 => intro w hSw; have e1 := ((bcell hSw).1 b (off + j) HBL.out).trans HC1.out; have e2 := Nat.lt_of_lt_of_le HBL.out hSw.size; have hh := (H2.out.next hSw); obtain ⟨c0, c1, c2, c3, c4, cl⟩ := hh.cells; have hlk := hh.2.lookN y; clear hh; go_simp; try with_reducible rfl
        simp only [Act.put, List.getElem_toArray, List.getElem_cons_zero, List.getElem_cons_succ, List.setIfInBounds_toArray, List.set_cons_zero, List.set_cons_succ]
        refine wpAnyN_take (i := 9) (v := ?v18) rfl (by kernel_rfl) (by kernel_rfl) (by kernel_rfl) (by kernel_rfl) (fun _ _ _ h => h) (Or.inl ⟨by rfl, ?hy18⟩) (by assumption) ?_
        case hy18 => intro w hSw; (try dsimp only at hSw); go_simp; try with_reducible rfl
        simp only [Act.put, List.getElem_toArray, List.getElem_cons_zero, List.getElem_cons_succ, List.setIfInBounds_toArray, List.set_cons_zero, List.set_cons_succ]
        refine wpAnyN_done (by kernel_rfl) ?_ _
        have H4 := Lib.hid (H2.out.next HD2.out)
        have HK4 := Lib.hid (HK2.out.trans (KeptK.of HD2.out))
        clear hd
        cases hdy : c.d y
        · have HE := Lib.hid (step_rd (c := c) (x := x) fi la (by
            cases h : (rdOf x).all c.d
            · rfl
            · rw [List.all_eq_true] at h
              rw [h y (List.mem_of_getElem? HY.out)] at hdy
              cases hdy))
          clear hdy
          go_wp2_with fail
          go_ret
          exact ⟨ret_bool (by rw [HE.out]; rfl), fun c' h => (by rw [HE.out] at h; cases h), HK4.out⟩
        · have HS := Lib.hid (show ((rdOf x).take (j + 1)).all c.d = true by
            rw [List.take_add_one, HY.out, Option.toList_some, List.all_append, HJ.out]
            simp [hdy])
          clear hdy
          go_wp2_with fail
          exact ⟨⟨j + 1, by go_num, hlt, HD2, HS⟩, by simp [intOf]; omega⟩
      · have hlj : decide ((j : Int) < (n : Int)) = false := by simp; omega
        have HALL := Lib.hid (show (rdOf x).all c.d = true by
          have h := HJ.out
          rwa [List.take_of_length_le (by rw [HROW.out.1.1]; omega)] at h)
        clear HJ HROW
        obtain ⟨x0, x1, x2, x3, x4, x5⟩ := BoxI.cells HX3.out
        go_wp2_with fail
        refine (isarg_any x.op wr).mono ?_
        rintro e w3 ⟨rfl, rfl⟩
        rw [← har.out]
        clear H2 HK2 HX2 HBW
        cases ar
        rotate_left
        · have HOK := Lib.hid (okA_step (fi := fi) (la := la) HFO.out har.out.symm (by have h := HAP.out; rw [hpa.out] at h; simpa using h.symm) HALL.out)
          have HWRC := Lib.hid (okA_wr HFO.out har.out.symm)
          have HAN := Lib.hid (HF.out.an har.out.symm)
          have hs : IntKind.wrap .i64 (c.args - argN x) = c.args - argN x := wrapI (by have := HC.out.args; have := HAN.out; omega)
          obtain ⟨a, ha2⟩ : ∃ a, Hid (a = c.args - argN x) := ⟨_, rfl⟩
          obtain ⟨c0, c1, c2, c3, c4, cl⟩ := H3.out.cells
          have f2 := H3.out.1.frozen 2
          by_cases h10 : x.op = 10
          · have hN : argN x = x.n := by unfold argN; rw [if_pos h10]
            rw [hN] at hs
            have q10 : (x.op == 10) = true := by simpa using h10
            have q6 : (x.op == 6) = false := by simp; omega
            have ha3 := Lib.hid (show c.args - x.n = a by rw [ha2.out, hN])
            clear h10
            go_upto_region 14 with fail
            rw [ha3.out]
            clear hs q10 hN
            obtain ⟨w1, hw1⟩ : ∃ X, Hid (X = w3.setCell ⟨k, 2, none⟩ (.int .i64 a)) := ⟨_, rfl⟩
            rw [← hw1.out]
            have H5 := Lib.hid (show CkAt (.int .i64 1) 150 w1 k g { c with args := a } by rw [hw1.out]; exact ⟨by simpa using H3.out.1.set_ 2 (.int .i64 a), H3.out.2.set_ hne.symm _⟩)
            have HX5 := Lib.hid (show BoxI w1 q x by rw [hw1.out]; exact Blk.far HX3.out hqk _)
            have HK5 := Lib.hid (show KeptK k g w w1 by rw [hw1.out]; exact HK3.out.set (.inl rfl) _)
            clear hw1 x0 x1 x2 x3 x4 x5 c0 c1 c2 c3 c4 cl f2 H3 HX3 HK3
            go_cut [79] from 60 to 79 (fun s79 wx => s79 = .bool (!okA c x la) ∧ Hid (KeptK k g w wx) ∧ Hid (okA c x la = true → CkAt (.int .i64 1) 150 wx k g { c with args := a, d := fun y => c.d y || (wrOf x).contains y }))
            case first =>
              obtain ⟨c0, c1, c2, c3, c4, cl⟩ := H5.out.cells
              obtain ⟨x0, x1, x2, x3, x4, x5⟩ := BoxI.cells HX5.out
              have HO := Lib.hid (show okA c x la = !(decide (a < 0) || la) by unfold okA; rw [q6, ← ha2.out]; simp)
              have HCK := Lib.hid (show CkAt (.int .i64 1) 150 w1 k g { c with args := a, d := fun y => c.d y || (wrOf x).contains y } from ⟨H5.out.1, H5.out.2.congr (fun y => by show c.d y = (c.d y || (wrOf x).contains y); rw [HWRC.out y, q6]; simp)⟩)
              by_cases h0 : a < 0
              · have q0 : decide (a < 0) = true := by simpa using h0
                go_wp2_with fail
                go_meet
                exact ⟨congrArg Value.bool (by rw [HO.out, q0]; rfl), HK5, Lib.hid fun _ => HCK.out⟩
              · have q0 : decide (a < 0) = false := by simpa using h0
                go_wp2_with fail
                go_meet
                exact ⟨congrArg Value.bool (by rw [HO.out, q0]; cases la <;> rfl), HK5, Lib.hid fun _ => HCK.out⟩
            case rest =>
              obtain ⟨rfl, HK6, H6⟩ := hcut
              cases hok : okA c x la
              · have HE := Lib.hid (show stepP c x fi la = none by rw [HOK.out, if_neg (by rw [hok]; simp)])
                clear hok
                go_wp2_with fail
                go_ret
                exact ⟨ret_bool (by rw [HE.out]; rfl), fun c' h => (by rw [HE.out] at h; cases h), HK6.out⟩
              · obtain ⟨cb, hcb⟩ : ∃ cb : Ck, Hid (cb = { c with args := a, d := fun y => c.d y || (wrOf x).contains y }) := ⟨_, rfl⟩
                have HE := Lib.hid (show stepP c x fi la = some (endP cb) by rw [HOK.out, if_pos hok, hcb.out, ha2.out])
                have h7 := H6.out hok
                rw [← hcb.out] at h7
                have H7 := Lib.hid h7
                clear hok h7 H6
                rename World => wz
                obtain ⟨c0, c1, c2, c3, c4, cl⟩ := H7.out.cells
                by_cases hz : cb.args = 0
                · have q1 : (cb.args == 0) = true := by simpa using hz
                  by_cases hp : cb.pend = 0
                  · have q2 : (cb.pend != 0) = false := by simpa using hp
                    have HFE := Lib.hid (end_keep (c := cb) (by simp [hp]))
                    clear hz hp
                    go_wp2_with fail
                    go_ret
                    exact ⟨ret_bool (by rw [HE.out]; rfl), fun c2 h => (by rw [HE.out, HFE.out] at h; injection h with h; rw [← h]; exact H7.out), HK6.out⟩
                  · have q2 : (cb.pend != 0) = true := by simpa using hp
                    have HFE := Lib.hid (end_turn (c := cb) ⟨hz, hp⟩)
                    clear hz hp
                    go_upto_region 17 with fail
                    obtain ⟨D3, hD3⟩ : ∃ X, Hid (X = wz.drew) := ⟨_, rfl⟩
                    have hd : Below wz.heap.size wz D3 := by rw [hD3.out]; exact bDrewN (Below.refl _ _) 1
                    have H8 := Lib.hid (H7.out.next hd)
                    have HK8 := Lib.hid (HK6.out.trans (KeptK.of hd))
                    have hS0 : Blk D3 k 150 #[.map (some g), .int .i64 cb.env, .int .i64 cb.args, .int .i64 cb.pend, .bool cb.called] := H8.out.1
                    refine wp_region_N (fun w' => Blk w' k 150 #[.map (some g), .int .i64 cb.env, .int .i64 cb.args, .int .i64 cb.pend, .bool cb.called]) (fun _ => true) (by kernel_rfl) ?_
                    rw [← hD3.out]
                    clear hD3 hd c0 c1 c2 c3 c4 cl q1 q2
                    refine wpAnyN_take (i := 0) (v := ?v19) rfl (by kernel_rfl) (by kernel_rfl) (by kernel_rfl) (by kernel_rfl) (fun _ _ _ h => h) (Or.inl ⟨by rfl, ?hy19⟩) (by assumption) ?_
                    case hy19 => intro w hSw; (try dsimp only at hSw); go_simp; try with_reducible rfl
                    simp only [Act.put, List.getElem_toArray, List.getElem_cons_zero, List.setIfInBounds_toArray, List.set_cons_zero, List.set_cons_succ]
                    refine wpAnyN_take (i := 1) (v := ?v20) rfl (by kernel_rfl) (by kernel_rfl) (by kernel_rfl) (by kernel_rfl) (fun _ _ _ h => h) (Or.inl ⟨by rfl, ?hy20⟩) (by assumption) ?_
                    case hy20 => intro w hSw; (try dsimp only at hSw); go_simp; try with_reducible rfl
                    simp only [Act.put, List.getElem_toArray, List.getElem_cons_zero, List.getElem_cons_succ, List.setIfInBounds_toArray, List.set_cons_zero, List.set_cons_succ]
                    refine wpAnyN_take (i := 2) (v := ?v21) rfl (by kernel_rfl) (by kernel_rfl) (by kernel_rfl) (by kernel_rfl) (fun _ _ _ h => h) (Or.inl ⟨by rfl, ?hy21⟩) (by assumption) ?_
                    case hy21 => intro w hSw; (try dsimp only at hSw); go_simp; try with_reducible rfl
                    simp only [Act.put, List.getElem_toArray, List.getElem_cons_zero, List.getElem_cons_succ, List.setIfInBounds_toArray, List.set_cons_zero, List.set_cons_succ]
                    refine wpAnyN_take (i := 3) (v := ?v22) rfl (by kernel_rfl) (by kernel_rfl) (by kernel_rfl) (by kernel_rfl) (fun _ _ _ h => h) (Or.inl ⟨by rfl, ?hy22⟩) (by assumption) ?_
                    case hy22 => intro w hSw; have c0 := hSw.cell 0; have c3 := hSw.cell 3; have cl := hSw.lt; simp at c0 c3; go_simp; try with_reducible rfl
                    simp only [Act.put, List.getElem_toArray, List.getElem_cons_zero, List.getElem_cons_succ, List.setIfInBounds_toArray, List.set_cons_zero, List.set_cons_succ]
                    refine wpAnyN_take (i := 4) (v := ?v23) rfl (by kernel_rfl) (by kernel_rfl) (by kernel_rfl) (by kernel_rfl) (fun _ _ _ h => h) (Or.inl ⟨by rfl, ?hy23⟩) (by assumption) ?_
                    case hy23 => intro w hSw; (try dsimp only at hSw); go_simp; try with_reducible rfl
                    simp only [Act.put, List.getElem_toArray, List.getElem_cons_zero, List.getElem_cons_succ, List.setIfInBounds_toArray, List.set_cons_zero, List.set_cons_succ]
                    refine wpAnyN_take (i := 5) (v := ?v24) rfl (by kernel_rfl) (by kernel_rfl) (by kernel_rfl) (by kernel_rfl) (fun _ _ _ h => h) (Or.inl ⟨by rfl, ?hy24⟩) (by assumption) ?_
                    case hy24 => intro w hSw; (try dsimp only at hSw); go_simp; try with_reducible rfl
                    simp only [Act.put, List.getElem_toArray, List.getElem_cons_zero, List.getElem_cons_succ, List.setIfInBounds_toArray, List.set_cons_zero, List.set_cons_succ]
                    refine wpAnyN_take (i := 6) (v := ?v25) rfl (by kernel_rfl) (by kernel_rfl) (by kernel_rfl) (by kernel_rfl) (fun _ _ _ h => h) (Or.inl ⟨by rfl, ?hy25⟩) (by assumption) ?_
                    case hy25 => intro w hSw; (try dsimp only at hSw); go_simp; try with_reducible rfl
                    simp only [Act.put, List.getElem_toArray, List.getElem_cons_zero, List.getElem_cons_succ, List.setIfInBounds_toArray, List.set_cons_zero, List.set_cons_succ]
                    refine wpAnyN_take (i := 7) (v := ?v26) rfl (by kernel_rfl) (by kernel_rfl) (by kernel_rfl) (by kernel_rfl) (fun _ _ _ h => h) (Or.inl ⟨by rfl, ?hy26⟩) (by assumption) ?_
                    case hy26 => intro w hSw; have c0 := hSw.cell 0; have c3 := hSw.cell 3; have cl := hSw.lt; simp at c0 c3; go_simp; try with_reducible rfl
                    simp only [Act.put, List.getElem_toArray, List.getElem_cons_zero, List.getElem_cons_succ, List.setIfInBounds_toArray, List.set_cons_zero, List.set_cons_succ]
                    obtain ⟨w9, hrun, hs9, hg9, hz9⟩ := H8.out.2.update (mt := 148) under148 cb.pend
                    refine wpAnyN_one (i := 8) (by kernel_rfl) rfl (fun K hK => ?_)
                    simp only [List.getElem_toArray, List.getElem_cons_zero, List.getElem_cons_succ]
                    go_simp
                    have hS1 : Blk w9 k 150 #[.map (some g), .int .i64 cb.env, .int .i64 cb.args, .int .i64 cb.pend, .bool cb.called] := (H8.out.upd hs9 hg9).1
                    refine hK _ _ (fun _ => hS1) ?_
                    have H9 := Lib.hid (H8.out.upd hs9 hg9)
                    have HK9 := Lib.hid (HK8.out.grown hg9 (fun i hi => by injection hi with hi; exact .inr (.inl hi.symm)))
                    (try simp only [Act.put, List.setIfInBounds_toArray, List.set_cons_zero, List.set_cons_succ])
                    refine wpAnyN_done (by kernel_rfl) ?_ _
                    clear hS0 hS1 hrun hs9 hg9 hz9
                    obtain ⟨c0, c1, c2, c3, c4, cl⟩ := H9.out.cells
                    have f3 := H9.out.1.frozen 3
                    go_wp2_with fail
                    go_ret
                    refine ⟨ret_bool (by rw [HE.out]; rfl), fun c2 h => ?_, HK9.out.set (.inl rfl) _⟩
                    rw [HE.out, HFE.out] at h
                    injection h with h
                    rw [← h]
                    exact ⟨by simpa using H9.out.1.set_ 3 (.int .i64 0), H9.out.2.set_ hne.symm _⟩
                · have q1 : (cb.args == 0) = false := by simpa using hz
                  have HFE := Lib.hid (end_keep (c := cb) (by simp [hz]))
                  clear hz
                  go_wp2_with fail
                  go_ret
                  exact ⟨ret_bool (by rw [HE.out]; rfl), fun c2 h => (by rw [HE.out, HFE.out] at h; injection h with h; rw [← h]; exact H7.out), HK6.out⟩
          · have hN : argN x = 1 := by unfold argN; rw [if_neg h10]
            rw [hN] at hs
            have q10 : (x.op == 10) = false := by simpa using h10
            have ha3 := Lib.hid (show c.args - 1 = a by rw [ha2.out, hN])
            clear h10
            cases q6 : (x.op == 6)
            · have Q6 := Lib.hid q6
              go_upto_region 14 with fail
              rw [ha3.out]
              clear hs q10 hN
              obtain ⟨w1, hw1⟩ : ∃ X, Hid (X = w3.setCell ⟨k, 2, none⟩ (.int .i64 a)) := ⟨_, rfl⟩
              rw [← hw1.out]
              have H5 := Lib.hid (show CkAt (.int .i64 1) 150 w1 k g { c with args := a } by rw [hw1.out]; exact ⟨by simpa using H3.out.1.set_ 2 (.int .i64 a), H3.out.2.set_ hne.symm _⟩)
              have HX5 := Lib.hid (show BoxI w1 q x by rw [hw1.out]; exact Blk.far HX3.out hqk _)
              have HK5 := Lib.hid (show KeptK k g w w1 by rw [hw1.out]; exact HK3.out.set (.inl rfl) _)
              clear hw1 x0 x1 x2 x3 x4 x5 c0 c1 c2 c3 c4 cl f2 H3 HX3 HK3
              go_cut [79] from 60 to 79 (fun s79 wx => s79 = .bool (!okA c x la) ∧ Hid (KeptK k g w wx) ∧ Hid (okA c x la = true → CkAt (.int .i64 1) 150 wx k g { c with args := a, d := fun y => c.d y || (wrOf x).contains y }))
              case first =>
                obtain ⟨c0, c1, c2, c3, c4, cl⟩ := H5.out.cells
                obtain ⟨x0, x1, x2, x3, x4, x5⟩ := BoxI.cells HX5.out
                have HO := Lib.hid (show okA c x la = !(decide (a < 0) || la) by unfold okA; rw [q6, ← ha2.out]; simp)
                have HCK := Lib.hid (show CkAt (.int .i64 1) 150 w1 k g { c with args := a, d := fun y => c.d y || (wrOf x).contains y } from ⟨H5.out.1, H5.out.2.congr (fun y => by show c.d y = (c.d y || (wrOf x).contains y); rw [HWRC.out y, q6]; simp)⟩)
                by_cases h0 : a < 0
                · have q0 : decide (a < 0) = true := by simpa using h0
                  go_wp2_with fail
                  go_meet
                  exact ⟨congrArg Value.bool (by rw [HO.out, q0]; rfl), HK5, Lib.hid fun _ => HCK.out⟩
                · have q0 : decide (a < 0) = false := by simpa using h0
                  go_wp2_with fail
                  go_meet
                  exact ⟨congrArg Value.bool (by rw [HO.out, q0]; cases la <;> rfl), HK5, Lib.hid fun _ => HCK.out⟩
              case rest =>
                obtain ⟨rfl, HK6, H6⟩ := hcut
                cases hok : okA c x la
                · have HE := Lib.hid (show stepP c x fi la = none by rw [HOK.out, if_neg (by rw [hok]; simp)])
                  clear hok
                  go_wp2_with fail
                  go_ret
                  exact ⟨ret_bool (by rw [HE.out]; rfl), fun c' h => (by rw [HE.out] at h; cases h), HK6.out⟩
                · obtain ⟨cb, hcb⟩ : ∃ cb : Ck, Hid (cb = { c with args := a, d := fun y => c.d y || (wrOf x).contains y }) := ⟨_, rfl⟩
                  have HE := Lib.hid (show stepP c x fi la = some (endP cb) by rw [HOK.out, if_pos hok, hcb.out, ha2.out])
                  have h7 := H6.out hok
                  rw [← hcb.out] at h7
                  have H7 := Lib.hid h7
                  clear hok h7 H6
                  rename World => wz
                  obtain ⟨c0, c1, c2, c3, c4, cl⟩ := H7.out.cells
                  by_cases hz : cb.args = 0
                  · have q1 : (cb.args == 0) = true := by simpa using hz
                    by_cases hp : cb.pend = 0
                    · have q2 : (cb.pend != 0) = false := by simpa using hp
                      have HFE := Lib.hid (end_keep (c := cb) (by simp [hp]))
                      clear hz hp
                      go_wp2_with fail
                      go_ret
                      exact ⟨ret_bool (by rw [HE.out]; rfl), fun c2 h => (by rw [HE.out, HFE.out] at h; injection h with h; rw [← h]; exact H7.out), HK6.out⟩
                    · have q2 : (cb.pend != 0) = true := by simpa using hp
                      have HFE := Lib.hid (end_turn (c := cb) ⟨hz, hp⟩)
                      clear hz hp
                      go_upto_region 17 with fail
                      obtain ⟨D3, hD3⟩ : ∃ X, Hid (X = wz.drew) := ⟨_, rfl⟩
                      have hd : Below wz.heap.size wz D3 := by rw [hD3.out]; exact bDrewN (Below.refl _ _) 1
                      have H8 := Lib.hid (H7.out.next hd)
                      have HK8 := Lib.hid (HK6.out.trans (KeptK.of hd))
                      have hS0 : Blk D3 k 150 #[.map (some g), .int .i64 cb.env, .int .i64 cb.args, .int .i64 cb.pend, .bool cb.called] := H8.out.1
                      refine wp_region_N (fun w' => Blk w' k 150 #[.map (some g), .int .i64 cb.env, .int .i64 cb.args, .int .i64 cb.pend, .bool cb.called]) (fun _ => true) (by kernel_rfl) ?_
                      rw [← hD3.out]
                      clear hD3 hd c0 c1 c2 c3 c4 cl q1 q2
                      refine wpAnyN_take (i := 0) (v := ?v27) rfl (by kernel_rfl) (by kernel_rfl) (by kernel_rfl) (by kernel_rfl) (fun _ _ _ h => h) (Or.inl ⟨by rfl, ?hy27⟩) (by assumption) ?_
                      case hy27 => intro w hSw; (try dsimp only at hSw); go_simp; try with_reducible rfl
                      simp only [Act.put, List.getElem_toArray, List.getElem_cons_zero, List.setIfInBounds_toArray, List.set_cons_zero, List.set_cons_succ]
                      refine wpAnyN_take (i := 1) (v := ?v28) rfl (by kernel_rfl) (by kernel_rfl) (by kernel_rfl) (by kernel_rfl) (fun _ _ _ h => h) (Or.inl ⟨by rfl, ?hy28⟩) (by assumption) ?_
                      case hy28 => intro w hSw; (try dsimp only at hSw); go_simp; try with_reducible rfl
                      simp only [Act.put, List.getElem_toArray, List.getElem_cons_zero, List.getElem_cons_succ, List.setIfInBounds_toArray, List.set_cons_zero, List.set_cons_succ]
                      refine wpAnyN_take (i := 2) (v := ?v29) rfl (by kernel_rfl) (by kernel_rfl) (by kernel_rfl) (by kernel_rfl) (fun _ _ _ h => h) (Or.inl ⟨by rfl, ?hy29⟩) (by assumption) ?_
                      case hy29 => intro w hSw; (try dsimp only at hSw); go_simp; try with_reducible rfl
                      simp only [Act.put, List.getElem_toArray, List.getElem_cons_zero, List.getElem_cons_succ, List.setIfInBounds_toArray, List.set_cons_zero, List.set_cons_succ]
                      refine wpAnyN_take (i := 3) (v := ?v30) rfl (by kernel_rfl) (by kernel_rfl) (by kernel_rfl) (by kernel_rfl) (fun _ _ _ h => h) (Or.inl ⟨by rfl, ?hy30⟩) (by assumption) ?_
                      case hy30 => intro w hSw; have c0 := hSw.cell 0; have c3 := hSw.cell 3; have cl := hSw.lt; simp at c0 c3; go_simp; try with_reducible rfl
                      simp only [Act.put, List.getElem_toArray, List.getElem_cons_zero, List.getElem_cons_succ, List.setIfInBounds_toArray, List.set_cons_zero, List.set_cons_succ]
                      refine wpAnyN_take (i := 4) (v := ?v31) rfl (by kernel_rfl) (by kernel_rfl) (by kernel_rfl) (by kernel_rfl) (fun _ _ _ h => h) (Or.inl ⟨by rfl, ?hy31⟩) (by assumption) ?_
                      case hy31 => intro w hSw; (try dsimp only at hSw); go_simp; try with_reducible rfl
                      simp only [Act.put, List.getElem_toArray, List.getElem_cons_zero, List.getElem_cons_succ, List.setIfInBounds_toArray, List.set_cons_zero, List.set_cons_succ]
                      refine wpAnyN_take (i := 5) (v := ?v32) rfl (by kernel_rfl) (by kernel_rfl) (by kernel_rfl) (by kernel_rfl) (fun _ _ _ h => h) (Or.inl ⟨by rfl, ?hy32⟩) (by assumption) ?_
                      case hy32 => intro w hSw; (try dsimp only at hSw); go_simp; try with_reducible rfl
                      simp only [Act.put, List.getElem_toArray, List.getElem_cons_zero, List.getElem_cons_succ, List.setIfInBounds_toArray, List.set_cons_zero, List.set_cons_succ]
                      refine wpAnyN_take (i := 6) (v := ?v33) rfl (by kernel_rfl) (by kernel_rfl) (by kernel_rfl) (by kernel_rfl) (fun _ _ _ h => h) (Or.inl ⟨by rfl, ?hy33⟩) (by assumption) ?_
                      case hy33 => intro w hSw; (try dsimp only at hSw); go_simp; try with_reducible rfl
                      simp only [Act.put, List.getElem_toArray, List.getElem_cons_zero, List.getElem_cons_succ, List.setIfInBounds_toArray, List.set_cons_zero, List.set_cons_succ]
                      refine wpAnyN_take (i := 7) (v := ?v34) rfl (by kernel_rfl) (by kernel_rfl) (by kernel_rfl) (by kernel_rfl) (fun _ _ _ h => h) (Or.inl ⟨by rfl, ?hy34⟩) (by assumption) ?_
                      case hy34 => intro w hSw; have c0 := hSw.cell 0; have c3 := hSw.cell 3; have cl := hSw.lt; simp at c0 c3; go_simp; try with_reducible rfl
                      simp only [Act.put, List.getElem_toArray, List.getElem_cons_zero, List.getElem_cons_succ, List.setIfInBounds_toArray, List.set_cons_zero, List.set_cons_succ]
                      obtain ⟨w9, hrun, hs9, hg9, hz9⟩ := H8.out.2.update (mt := 148) under148 cb.pend
                      refine wpAnyN_one (i := 8) (by kernel_rfl) rfl (fun K hK => ?_)
                      simp only [List.getElem_toArray, List.getElem_cons_zero, List.getElem_cons_succ]
                      go_simp
                      have hS1 : Blk w9 k 150 #[.map (some g), .int .i64 cb.env, .int .i64 cb.args, .int .i64 cb.pend, .bool cb.called] := (H8.out.upd hs9 hg9).1
                      refine hK _ _ (fun _ => hS1) ?_
                      have H9 := Lib.hid (H8.out.upd hs9 hg9)
                      have HK9 := Lib.hid (HK8.out.grown hg9 (fun i hi => by injection hi with hi; exact .inr (.inl hi.symm)))
                      (try simp only [Act.put, List.setIfInBounds_toArray, List.set_cons_zero, List.set_cons_succ])
                      refine wpAnyN_done (by kernel_rfl) ?_ _
                      clear hS0 hS1 hrun hs9 hg9 hz9
                      obtain ⟨c0, c1, c2, c3, c4, cl⟩ := H9.out.cells
                      have f3 := H9.out.1.frozen 3
                      go_wp2_with fail
                      go_ret
                      refine ⟨ret_bool (by rw [HE.out]; rfl), fun c2 h => ?_, HK9.out.set (.inl rfl) _⟩
                      rw [HE.out, HFE.out] at h
                      injection h with h
                      rw [← h]
                      exact ⟨by simpa using H9.out.1.set_ 3 (.int .i64 0), H9.out.2.set_ hne.symm _⟩
                  · have q1 : (cb.args == 0) = false := by simpa using hz
                    have HFE := Lib.hid (end_keep (c := cb) (by simp [hz]))
                    clear hz
                    go_wp2_with fail
                    go_ret
                    exact ⟨ret_bool (by rw [HE.out]; rfl), fun c2 h => (by rw [HE.out, HFE.out] at h; injection h with h; rw [← h]; exact H7.out), HK6.out⟩
            · have Q6 := Lib.hid q6
              go_upto_region 14 with fail
              rw [ha3.out]
              clear hs q10 hN
              obtain ⟨w1, hw1⟩ : ∃ X, Hid (X = w3.setCell ⟨k, 2, none⟩ (.int .i64 a)) := ⟨_, rfl⟩
              rw [← hw1.out]
              have H5 := Lib.hid (show CkAt (.int .i64 1) 150 w1 k g { c with args := a } by rw [hw1.out]; exact ⟨by simpa using H3.out.1.set_ 2 (.int .i64 a), H3.out.2.set_ hne.symm _⟩)
              have HX5 := Lib.hid (show BoxI w1 q x by rw [hw1.out]; exact Blk.far HX3.out hqk _)
              have HK5 := Lib.hid (show KeptK k g w w1 by rw [hw1.out]; exact HK3.out.set (.inl rfl) _)
              clear hw1 x0 x1 x2 x3 x4 x5 c0 c1 c2 c3 c4 cl f2 H3 HX3 HK3
              go_cut [79] from 60 to 79 (fun s79 wx => s79 = .bool (!okA c x la) ∧ Hid (KeptK k g w wx) ∧ Hid (okA c x la = true → CkAt (.int .i64 1) 150 wx k g { c with args := a, d := fun y => c.d y || (wrOf x).contains y }))
              case first =>
                obtain ⟨c0, c1, c2, c3, c4, cl⟩ := H5.out.cells
                obtain ⟨x0, x1, x2, x3, x4, x5⟩ := BoxI.cells HX5.out
                have HXR := Lib.hid (op6_r HFO.out (by simpa using q6))
                have HO := Lib.hid (show okA c x la = !(!exP c x.r || decide (a < 0) || la) by unfold okA; rw [q6, ← ha2.out]; simp)
                go_wp2_with fail
                refine (define_any { c with args := a } k g x.r w1 HXR.out.2 H5.out).mono ?_
                rintro e w4 ⟨rfl, hck, hkp⟩
                have HK4 := Lib.hid (HK5.out.trans hkp)
                have HCK := Lib.hid (show exP c x.r = true → CkAt (.int .i64 1) 150 w4 k g { c with args := a, d := fun y => c.d y || (wrOf x).contains y } from fun he => ⟨(hck he).1, (hck he).2.congr (fun y => by show (c.d y || y == x.r) = (c.d y || (wrOf x).contains y); rw [HWRC.out y, q6]; rfl)⟩)
                clear hck hkp c0 c1 c2 c3 c4 cl x0 x1 x2 x3 x4 x5
                rw [show exP { c with args := a } x.r = exP c x.r from rfl]
                obtain ⟨ex, hex⟩ : ∃ b, Hid (b = exP c x.r) := ⟨_, rfl⟩
                rw [← hex.out] at HO HCK ⊢
                cases ex
                · go_wp2_with fail
                  go_meet
                  exact ⟨congrArg Value.bool (by rw [HO.out]; rfl), HK4, Lib.hid fun h => by rw [HO.out] at h; cases h⟩
                · obtain ⟨c0, c1, c2, c3, c4, cl⟩ := (HCK.out (by trivial)).cells
                  by_cases h0 : a < 0
                  · have q0 : decide (a < 0) = true := by simpa using h0
                    go_wp2_with fail
                    go_meet
                    exact ⟨congrArg Value.bool (by rw [HO.out, q0]; rfl), HK4, Lib.hid fun _ => HCK.out (by trivial)⟩
                  · have q0 : decide (a < 0) = false := by simpa using h0
                    go_wp2_with fail
                    go_meet
                    exact ⟨congrArg Value.bool (by rw [HO.out, q0]; cases la <;> rfl), HK4, Lib.hid fun _ => HCK.out (by trivial)⟩
              case rest =>
                obtain ⟨rfl, HK6, H6⟩ := hcut
                cases hok : okA c x la
                · have HE := Lib.hid (show stepP c x fi la = none by rw [HOK.out, if_neg (by rw [hok]; simp)])
                  clear hok
                  go_wp2_with fail
                  go_ret
                  exact ⟨ret_bool (by rw [HE.out]; rfl), fun c' h => (by rw [HE.out] at h; cases h), HK6.out⟩
                · obtain ⟨cb, hcb⟩ : ∃ cb : Ck, Hid (cb = { c with args := a, d := fun y => c.d y || (wrOf x).contains y }) := ⟨_, rfl⟩
                  have HE := Lib.hid (show stepP c x fi la = some (endP cb) by rw [HOK.out, if_pos hok, hcb.out, ha2.out])
                  have h7 := H6.out hok
                  rw [← hcb.out] at h7
                  have H7 := Lib.hid h7
                  clear hok h7 H6
                  rename World => wz
                  obtain ⟨c0, c1, c2, c3, c4, cl⟩ := H7.out.cells
                  by_cases hz : cb.args = 0
                  · have q1 : (cb.args == 0) = true := by simpa using hz
                    by_cases hp : cb.pend = 0
                    · have q2 : (cb.pend != 0) = false := by simpa using hp
                      have HFE := Lib.hid (end_keep (c := cb) (by simp [hp]))
                      clear hz hp
                      go_wp2_with fail
                      go_ret
                      exact ⟨ret_bool (by rw [HE.out]; rfl), fun c2 h => (by rw [HE.out, HFE.out] at h; injection h with h; rw [← h]; exact H7.out), HK6.out⟩
                    · have q2 : (cb.pend != 0) = true := by simpa using hp
                      have HFE := Lib.hid (end_turn (c := cb) ⟨hz, hp⟩)
                      clear hz hp
                      go_upto_region 17 with fail
                      obtain ⟨D3, hD3⟩ : ∃ X, Hid (X = wz.drew) := ⟨_, rfl⟩
                      have hd : Below wz.heap.size wz D3 := by rw [hD3.out]; exact bDrewN (Below.refl _ _) 1
                      have H8 := Lib.hid (H7.out.next hd)
                      have HK8 := Lib.hid (HK6.out.trans (KeptK.of hd))
                      have hS0 : Blk D3 k 150 #[.map (some g), .int .i64 cb.env, .int .i64 cb.args, .int .i64 cb.pend, .bool cb.called] := H8.out.1
                      refine wp_region_N (fun w' => Blk w' k 150 #[.map (some g), .int .i64 cb.env, .int .i64 cb.args, .int .i64 cb.pend, .bool cb.called]) (fun _ => true) (by kernel_rfl) ?_
                      rw [← hD3.out]
                      clear hD3 hd c0 c1 c2 c3 c4 cl q1 q2
                      refine wpAnyN_take (i := 0) (v := ?v35) rfl (by kernel_rfl) (by kernel_rfl) (by kernel_rfl) (by kernel_rfl) (fun _ _ _ h => h) (Or.inl ⟨by rfl, ?hy35⟩) (by assumption) ?_
                      case hy35 => intro w hSw; (try dsimp only at hSw); go_simp; try with_reducible rfl
                      simp only [Act.put, List.getElem_toArray, List.getElem_cons_zero, List.setIfInBounds_toArray, List.set_cons_zero, List.set_cons_succ]
                      refine wpAnyN_take (i := 1) (v := ?v36) rfl (by kernel_rfl) (by kernel_rfl) (by kernel_rfl) (by kernel_rfl) (fun _ _ _ h => h) (Or.inl ⟨by rfl, ?hy36⟩) (by assumption) ?_
                      case hy36 => intro w hSw; (try dsimp only at hSw); go_simp; try with_reducible rfl
                      simp only [Act.put, List.getElem_toArray, List.getElem_cons_zero, List.getElem_cons_succ, List.setIfInBounds_toArray, List.set_cons_zero, List.set_cons_succ]
                      refine wpAnyN_take (i := 2) (v := ?v37) rfl (by kernel_rfl) (by kernel_rfl) (by kernel_rfl) (by kernel_rfl) (fun _ _ _ h => h) (Or.inl ⟨by rfl, ?hy37⟩) (by assumption) ?_
                      case hy37 => intro w hSw; (try dsimp only at hSw); go_simp; try with_reducible rfl
                      simp only [Act.put, List.getElem_toArray, List.getElem_cons_zero, List.getElem_cons_succ, List.setIfInBounds_toArray, List.set_cons_zero, List.set_cons_succ]
                      refine wpAnyN_take (i := 3) (v := ?v38) rfl (by kernel_rfl) (by kernel_rfl) (by kernel_rfl) (by kernel_rfl) (fun _ _ _ h => h) (Or.inl ⟨by rfl, ?hy38⟩) (by assumption) ?_
                      case hy38 => intro w hSw; have c0 := hSw.cell 0; have c3 := hSw.cell 3; have cl := hSw.lt; simp at c0 c3; go_simp; try with_reducible rfl
                      simp only [Act.put, List.getElem_toArray, List.getElem_cons_zero, List.getElem_cons_succ, List.setIfInBounds_toArray, List.set_cons_zero, List.set_cons_succ]
                      refine wpAnyN_take (i := 4) (v := ?v39) rfl (by kernel_rfl) (by kernel_rfl) (by kernel_rfl) (by kernel_rfl) (fun _ _ _ h => h) (Or.inl ⟨by rfl, ?hy39⟩) (by assumption) ?_
                      case hy39 => intro w hSw; (try dsimp only at hSw); go_simp; try with_reducible rfl
                      simp only [Act.put, List.getElem_toArray, List.getElem_cons_zero, List.getElem_cons_succ, List.setIfInBounds_toArray, List.set_cons_zero, List.set_cons_succ]
                      refine wpAnyN_take (i := 5) (v := ?v40) rfl (by kernel_rfl) (by kernel_rfl) (by kernel_rfl) (by kernel_rfl) (fun _ _ _ h => h) (Or.inl ⟨by rfl, ?hy40⟩) (by assumption) ?_
                      case hy40 => intro w hSw; (try dsimp only at hSw); go_simp; try with_reducible rfl
                      simp only [Act.put, List.getElem_toArray, List.getElem_cons_zero, List.getElem_cons_succ, List.setIfInBounds_toArray, List.set_cons_zero, List.set_cons_succ]
                      refine wpAnyN_take (i := 6) (v := ?v41) rfl (by kernel_rfl) (by kernel_rfl) (by kernel_rfl) (by kernel_rfl) (fun _ _ _ h => h) (Or.inl ⟨by rfl, ?hy41⟩) (by assumption) ?_
                      case hy41 => intro w hSw; (try dsimp only at hSw); go_simp; try with_reducible rfl
                      simp only [Act.put, List.getElem_toArray, List.getElem_cons_zero, List.getElem_cons_succ, List.setIfInBounds_toArray, List.set_cons_zero, List.set_cons_succ]
                      refine wpAnyN_take (i := 7) (v := ?v42) rfl (by kernel_rfl) (by kernel_rfl) (by kernel_rfl) (by kernel_rfl) (fun _ _ _ h => h) (Or.inl ⟨by rfl, ?hy42⟩) (by assumption) ?_
                      case hy42 => intro w hSw; have c0 := hSw.cell 0; have c3 := hSw.cell 3; have cl := hSw.lt; simp at c0 c3; go_simp; try with_reducible rfl
                      simp only [Act.put, List.getElem_toArray, List.getElem_cons_zero, List.getElem_cons_succ, List.setIfInBounds_toArray, List.set_cons_zero, List.set_cons_succ]
                      obtain ⟨w9, hrun, hs9, hg9, hz9⟩ := H8.out.2.update (mt := 148) under148 cb.pend
                      refine wpAnyN_one (i := 8) (by kernel_rfl) rfl (fun K hK => ?_)
                      simp only [List.getElem_toArray, List.getElem_cons_zero, List.getElem_cons_succ]
                      go_simp
                      have hS1 : Blk w9 k 150 #[.map (some g), .int .i64 cb.env, .int .i64 cb.args, .int .i64 cb.pend, .bool cb.called] := (H8.out.upd hs9 hg9).1
                      refine hK _ _ (fun _ => hS1) ?_
                      have H9 := Lib.hid (H8.out.upd hs9 hg9)
                      have HK9 := Lib.hid (HK8.out.grown hg9 (fun i hi => by injection hi with hi; exact .inr (.inl hi.symm)))
                      (try simp only [Act.put, List.setIfInBounds_toArray, List.set_cons_zero, List.set_cons_succ])
                      refine wpAnyN_done (by kernel_rfl) ?_ _
                      clear hS0 hS1 hrun hs9 hg9 hz9
                      obtain ⟨c0, c1, c2, c3, c4, cl⟩ := H9.out.cells
                      have f3 := H9.out.1.frozen 3
                      go_wp2_with fail
                      go_ret
                      refine ⟨ret_bool (by rw [HE.out]; rfl), fun c2 h => ?_, HK9.out.set (.inl rfl) _⟩
                      rw [HE.out, HFE.out] at h
                      injection h with h
                      rw [← h]
                      exact ⟨by simpa using H9.out.1.set_ 3 (.int .i64 0), H9.out.2.set_ hne.symm _⟩
                  · have q1 : (cb.args == 0) = false := by simpa using hz
                    have HFE := Lib.hid (end_keep (c := cb) (by simp [hz]))
                    clear hz
                    go_wp2_with fail
                    go_ret
                    exact ⟨ret_bool (by rw [HE.out]; rfl), fun c2 h => (by rw [HE.out, HFE.out] at h; injection h with h; rw [← h]; exact H7.out), HK6.out⟩
        · go_upto_region 20 with fail
          go_cut [12] from 12 to 115 (fun s12 wx => s12 = .bool (isEnd x.op) ∧ w3 = wx)
          case first =>
            go_wp2_with fail
            all_goals go_meet
            all_goals refine ⟨congrArg Value.bool ?_, rfl⟩
            all_goals (simp [isEnd, Bool.or_assoc, *]; done)
          case rest =>
          obtain ⟨rfl, rfl⟩ := hcut
          obtain ⟨en, hen⟩ : ∃ b, Hid (b = isEnd x.op) := ⟨_, rfl⟩
          rw [← hen.out]
          go_upto_region 21 with fail
          go_cut [118] from 116 to 118 (fun s118 wx => s118 = .bool (en != la) ∧ w3 = wx)
          case first =>
            clear hen
            cases en <;> cases la <;> (go_wp2_with fail) <;> go_meet <;> exact ⟨rfl, rfl⟩
          case rest =>
          obtain ⟨rfl, rfl⟩ := hcut
          obtain ⟨z2, hz2⟩ : ∃ z, Hid (z = (en != la)) := ⟨_, rfl⟩
          rw [← hz2.out]
          cases z2
          rotate_left
          · have HE := Lib.hid (show stepP c x fi la = none by unfold stepP; rw [if_pos]; right; rw [← hen.out]; exact hz2.out.symm)
            go_wp2_with fail
            go_ret
            exact ⟨ret_bool (by rw [HE.out]; rfl), fun c' h => (by rw [HE.out] at h; cases h), HK3.out⟩
          · have HT := Lib.hid (show ¬ ((isArg x.op != decide (0 < c.args)) = true ∨ (isEnd x.op != la) = true) by rw [← har.out, ← hen.out, ← hpa.out, ← HAP.out, ← hz2.out]; simp)
            clear hz2
            have HS := Lib.hid (show stepP c x fi la = (if x.op = 5 then some { c with args := x.ar }
                else if x.op = 15 then (if exP c x.r = true then some { c with args := x.ar, pend := x.r } else none)
                else if x.op = 16 then (if fi = true then some { c with env := x.n } else none)
                else if x.op = 17 then (if c.env < x.n then none else some (rzP c x.n))
                else if x.op = 18 then (if c.env < 0 then none else some (rzP c (-1)))
                else if x.op = 19 then (if 0 ≤ c.env then some { c with d := fun r => c.d r && !decide (0 < r), called := true } else none)
                else if x.op = 20 ∨ x.op = 21 then (if c.env < 0 then some c else none)
                else if x.op = 22 then (if c.called = true then none else wrP c [x.r])
                else wrP c (wrOf x)) by unfold stepP; rw [if_neg HT.out, if_neg (by rw [HALL.out]; simp), if_neg (by rw [← har.out]; simp)])
            obtain ⟨x0, x1, x2, x3, x4, x5⟩ := BoxI.cells HX3.out
            obtain ⟨c0, c1, c2, c3, c4, cl⟩ := H3.out.cells
            by_cases h5 : x.op = 5
            · have q5 : (x.op == 5) = true := by simpa using h5
              have HE := Lib.hid (show stepP c x fi la = some { c with args := x.ar } by rw [HS.out, if_pos h5])
              have f2 := H3.out.1.frozen 2
              clear h5
              go_wp2_with fail
              go_ret
              refine ⟨ret_bool (by rw [HE.out]; rfl), fun c' h => ?_, HK3.out.set (.inl rfl) _⟩
              rw [HE.out] at h
              injection h with h
              rw [← h]
              exact ⟨by simpa using H3.out.1.set_ 2 (.int .i64 x.ar), H3.out.2.set_ hne.symm _⟩
            · have q5 : (x.op == 5) = false := by simpa using h5
              by_cases h16 : x.op = 16
              · have q15 : (x.op == 15) = false := by rw [h16]; rfl
                have q16 : (x.op == 16) = true := by simpa using h16
                have HE := Lib.hid (show stepP c x fi la = if fi = true then some { c with env := x.n } else none by rw [HS.out, if_neg h5, if_neg (by omega), if_pos h16])
                have f1 := H3.out.1.frozen 1
                clear h5 h16
                go_wp2_with fail
                go_ret
                refine ⟨ret_bool (by rw [HE.out]; cases fi <;> rfl), fun c' h => ?_, HK3.out.set (.inl rfl) _⟩
                rw [HE.out] at h
                split at h
                · injection h with h
                  rw [← h]
                  exact ⟨by simpa using H3.out.1.set_ 1 (.int .i64 x.n), H3.out.2.set_ hne.symm _⟩
                · cases h
              · have q16 : (x.op == 16) = false := by simpa using h16
                by_cases h17 : x.op = 17
                · have q15 : (x.op == 15) = false := by rw [h17]; rfl
                  have q17 : (x.op == 17) = true := by simpa using h17
                  have HOP := Lib.hid (show x.op = 16 ∨ x.op = 17 from .inr h17)
                  have HE := Lib.hid (show stepP c x fi la = if c.env < x.n then none else some (rzP c x.n) by rw [HS.out, if_neg h5, if_neg (by omega), if_neg h16, if_pos h17])
                  clear h5 h16 h17
                  go_upto_region 39 with fail
                  obtain ⟨D, hD⟩ : ∃ X, Hid (X = w3.drew) := ⟨_, rfl⟩
                  have hd : Below w3.heap.size w3 D := by rw [hD.out]; exact bDrewN (Below.refl _ _) 1
                  refine wp_region_N (fun w' => Below w3.heap.size w3 w') (fun _ => true) (by kernel_rfl) ?_
                  rw [← hD.out]
                  have HD := Lib.hid hd
                  have H4 := Lib.hid (H3.out.next hd)
                  have HK4 := Lib.hid (HK3.out.trans (KeptK.of hd))
                  have HX4 := Lib.hid (BlkNext HX3.out hd)
                  clear hD x0 x1 x2 x3 x4 x5 c0 c1 c2 c3 c4 cl
                  refine wpAnyN_take (i := 0) (v := ?v43) rfl (by kernel_rfl) (by kernel_rfl) (by kernel_rfl) (by kernel_rfl) (fun _ _ _ h => h) (Or.inl ⟨by rfl, ?hy43⟩) (by assumption) ?_
                  case hy43 => intro w hSw; (try dsimp only at hSw); go_simp; try with_reducible rfl
                  simp only [Act.put, List.getElem_toArray, List.getElem_cons_zero, List.setIfInBounds_toArray, List.set_cons_zero, List.set_cons_succ]
                  refine wpAnyN_take (i := 1) (v := ?v44) rfl (by kernel_rfl) (by kernel_rfl) (by kernel_rfl) (by kernel_rfl) (fun _ _ _ h => h) (Or.inl ⟨by rfl, ?hy44⟩) (by assumption) ?_
                  case hy44 => intro w hSw; (try dsimp only at hSw); go_simp; try with_reducible rfl
                  simp only [Act.put, List.getElem_toArray, List.getElem_cons_zero, List.getElem_cons_succ, List.setIfInBounds_toArray, List.set_cons_zero, List.set_cons_succ]
                  refine wpAnyN_take (i := 2) (v := ?v45) rfl (by kernel_rfl) (by kernel_rfl) (by kernel_rfl) (by kernel_rfl) (fun _ _ _ h => h) (Or.inl ⟨by rfl, ?hy45⟩) (by assumption) ?_
                  case hy45 => intro w hSw; (try dsimp only at hSw); go_simp; try with_reducible rfl
                  simp only [Act.put, List.getElem_toArray, List.getElem_cons_zero, List.getElem_cons_succ, List.setIfInBounds_toArray, List.set_cons_zero, List.set_cons_succ]
                  refine wpAnyN_take (i := 3) (v := ?v46) rfl (by kernel_rfl) (by kernel_rfl) (by kernel_rfl) (by kernel_rfl) (fun _ _ _ h => h) (Or.inl ⟨by rfl, ?hy46⟩) (by assumption) ?_
                  case hy46 => intro w hSw; obtain ⟨c0, c1, c2, c3, c4, cl⟩ := (H3.out.next hSw).cells; obtain ⟨x0, x1, x2, x3, x4, x5⟩ := BoxI.cells (BlkNext HX3.out hSw); go_simp; try with_reducible rfl
                  simp only [Act.put, List.getElem_toArray, List.getElem_cons_zero, List.getElem_cons_succ, List.setIfInBounds_toArray, List.set_cons_zero, List.set_cons_succ]
                  refine wpAnyN_take (i := 4) (v := ?v47) rfl (by kernel_rfl) (by kernel_rfl) (by kernel_rfl) (by kernel_rfl) (fun _ _ _ h => h) (Or.inl ⟨by rfl, ?hy47⟩) (by assumption) ?_
                  case hy47 => intro w hSw; (try dsimp only at hSw); go_simp; try with_reducible rfl
                  simp only [Act.put, List.getElem_toArray, List.getElem_cons_zero, List.getElem_cons_succ, List.setIfInBounds_toArray, List.set_cons_zero, List.set_cons_succ]
                  refine wpAnyN_take (i := 5) (v := ?v48) rfl (by kernel_rfl) (by kernel_rfl) (by kernel_rfl) (by kernel_rfl) (fun _ _ _ h => h) (Or.inl ⟨by rfl, ?hy48⟩) (by assumption) ?_
                  case hy48 => intro w hSw; obtain ⟨c0, c1, c2, c3, c4, cl⟩ := (H3.out.next hSw).cells; obtain ⟨x0, x1, x2, x3, x4, x5⟩ := BoxI.cells (BlkNext HX3.out hSw); go_simp; try with_reducible rfl
                  simp only [Act.put, List.getElem_toArray, List.getElem_cons_zero, List.getElem_cons_succ, List.setIfInBounds_toArray, List.set_cons_zero, List.set_cons_succ]
                  refine wpAnyN_take (i := 6) (v := ?v49) rfl (by kernel_rfl) (by kernel_rfl) (by kernel_rfl) (by kernel_rfl) (fun _ _ _ h => h) (Or.inl ⟨by rfl, ?hy49⟩) (by assumption) ?_
                  case hy49 => intro w hSw; (try dsimp only at hSw); go_simp; try with_reducible rfl
                  simp only [Act.put, List.getElem_toArray, List.getElem_cons_zero, List.getElem_cons_succ, List.setIfInBounds_toArray, List.set_cons_zero, List.set_cons_succ]
                  refine wpAnyN_done (by kernel_rfl) ?_ _
                  clear hd
                  obtain ⟨tb, htb⟩ : ∃ t, Hid (t = decide (c.env < x.n)) := ⟨_, rfl⟩
                  rw [← htb.out]
                  have HX6 := Lib.hid (BoxI.cells HX4.out)
                  cases tb
                  rotate_left
                  · have h0 : c.env < x.n := by simpa using htb.out.symm
                    have HE2 := Lib.hid (show stepP c x fi la = none by rw [HE.out, if_pos h0])
                    clear h0
                    go_wp2_with fail
                    go_ret
                    exact ⟨ret_bool (by rw [HE2.out]; rfl), fun c' h => (by rw [HE2.out] at h; cases h), HK4.out⟩
                  · have h0 : ¬ c.env < x.n := by simpa using htb.out.symm
                    have HE2 := Lib.hid (show stepP c x fi la = some (rzP c x.n) by rw [HE.out, if_neg h0])
                    clear h0
                    obtain ⟨x0, x1, x2, x3, x4, x5⟩ := BoxI.cells HX4.out
                    go_wp2_with fail
                    refine (shrink_any c k g x.n D (by have := HF.out.n16 HOP.out; omega) HC.out.d H4.out).mono ?_
                    rintro e w4 ⟨rfl, h3, hk3⟩
                    have H5 := Lib.hid h3
                    have HK5 := Lib.hid (HK4.out.trans hk3)
                    clear h3 hk3 x0 x1 x2 x3 x4 x5
                    go_wp2_with fail
                    go_ret
                    exact ⟨ret_bool (by rw [HE2.out]; rfl), fun c' h => (by rw [HE2.out] at h; injection h with h; rw [← h]; exact H5.out), HK5.out⟩
                · have q17 : (x.op == 17) = false := by simpa using h17
                  by_cases h18 : x.op = 18
                  · have q15 : (x.op == 15) = false := by rw [h18]; rfl
                    have q18 : (x.op == 18) = true := by simpa using h18
                    have HE := Lib.hid (show stepP c x fi la = if c.env < 0 then none else some (rzP c (-1)) by rw [HS.out, if_neg h5, if_neg (by omega), if_neg h16, if_neg h17, if_pos h18])
                    clear h5 h16 h17 h18
                    by_cases h0 : c.env < 0
                    · have q0 : decide (c.env < 0) = true := by simpa using h0
                      have HE2 := Lib.hid (show stepP c x fi la = none by rw [HE.out, if_pos h0])
                      clear h0
                      go_wp2_with fail
                      go_ret
                      exact ⟨ret_bool (by rw [HE2.out]; rfl), fun c' h => (by rw [HE2.out] at h; cases h), HK3.out⟩
                    · have q0 : decide (c.env < 0) = false := by simpa using h0
                      have HE2 := Lib.hid (show stepP c x fi la = some (rzP c (-1)) by rw [HE.out, if_neg h0])
                      clear h0
                      go_wp2_with fail
                      refine (shrink_any c k g (-1) w3 (by omega) HC.out.d H3.out).mono ?_
                      rintro e w4 ⟨rfl, h3, hk3⟩
                      have H4 := Lib.hid h3
                      have HK4 := Lib.hid (HK3.out.trans hk3)
                      clear h3 hk3 x0 x1 x2 x3 x4 x5 c0 c1 c2 c3 c4 cl
                      go_wp2_with fail
                      go_ret
                      exact ⟨ret_bool (by rw [HE2.out]; rfl), fun c' h => (by rw [HE2.out] at h; injection h with h; rw [← h]; exact H4.out), HK4.out⟩
                  · have q18 : (x.op == 18) = false := by simpa using h18
                    by_cases h20 : x.op = 20 ∨ x.op = 21
                    · have HE := Lib.hid (show stepP c x fi la = if c.env < 0 then some c else none by rw [HS.out, if_neg h5, if_neg (by omega), if_neg h16, if_neg h17, if_neg h18, if_neg (by omega), if_pos h20])
                      have q15 : (x.op == 15) = false := by simp; omega
                      have q19 : (x.op == 19) = false := by simp; omega
                      have HF := Lib.hid (show (stepP c x fi la).isSome = decide (c.env < 0) by rw [HE.out]; split <;> simp [*])
                      rcases h20 with h | h
                      · have q20 : (x.op == 20) = true := by simpa using h
                        clear h5 h16 h17 h18 h
                        go_wp2_with fail
                        go_ret
                        refine ⟨ret_bool HF.out.symm, fun c' h => ?_, HK3.out⟩
                        rw [HE.out] at h
                        split at h
                        · injection h with h; rw [← h]; exact H3.out
                        · cases h
                      · have q20 : (x.op == 20) = false := by rw [h]; rfl
                        have q21 : (x.op == 21) = true := by simpa using h
                        clear h5 h16 h17 h18 h
                        go_wp2_with fail
                        go_ret
                        refine ⟨ret_bool HF.out.symm, fun c' h => ?_, HK3.out⟩
                        rw [HE.out] at h
                        split at h
                        · injection h with h; rw [← h]; exact H3.out
                        · cases h
                    · have q20 : (x.op == 20) = false := by simp; omega
                      have q21 : (x.op == 21) = false := by simp; omega
                      by_cases h15 : x.op = 15
                      · have q15 : (x.op == 15) = true := by simpa using h15
                        have HE := Lib.hid (show stepP c x fi la = if exP c x.r = true then some { c with args := x.ar, pend := x.r } else none by rw [HS.out, if_neg h5, if_pos h15])
                        have HXR := Lib.hid (HF.out.r15 (.inl h15)).2
                        clear h5 h15 h16 h17 h18 h20
                        go_upto_region 33 with fail
                        obtain ⟨D, hD⟩ : ∃ X, Hid (X = w3.drew) := ⟨_, rfl⟩
                        have hd : Below w3.heap.size w3 D := by rw [hD.out]; exact bDrewN (Below.refl _ _) 1
                        have H4 := Lib.hid (H3.out.next hd)
                        have HK4 := Lib.hid (HK3.out.trans (KeptK.of hd))
                        have hS0 : BoxI D q x := BlkNext HX3.out hd
                        refine wp_region_N (fun w' => BoxI w' q x) (fun _ => true) (by kernel_rfl) ?_
                        rw [← hD.out]
                        clear hD hd x0 x1 x2 x3 x4 x5 c0 c1 c2 c3 c4 cl
                        obtain ⟨c0, c1, c2, c3, c4, cl⟩ := H4.out.cells
                        have f2 := H4.out.1.frozen 2
                        have HSX := Lib.hid hS0
                        refine wpAnyN_take (i := 0) (v := ?v50) rfl (by kernel_rfl) (by kernel_rfl) (by kernel_rfl) (by kernel_rfl) (fun _ _ _ h => h) (Or.inl ⟨by rfl, ?hy50⟩) (by assumption) ?_
                        case hy50 => intro w hSw; (try dsimp only at hSw); go_simp; try with_reducible rfl
                        simp only [Act.put, List.getElem_toArray, List.getElem_cons_zero, List.setIfInBounds_toArray, List.set_cons_zero, List.set_cons_succ]
                        refine wpAnyN_take (i := 1) (v := ?v51) rfl (by kernel_rfl) (by kernel_rfl) (by kernel_rfl) (by kernel_rfl) (fun _ _ _ h => h) (Or.inl ⟨by rfl, ?hy51⟩) (by assumption) ?_
                        case hy51 => intro w hSw; (try dsimp only at hSw); go_simp; try with_reducible rfl
                        simp only [Act.put, List.getElem_toArray, List.getElem_cons_zero, List.getElem_cons_succ, List.setIfInBounds_toArray, List.set_cons_zero, List.set_cons_succ]
                        refine wpAnyN_take (i := 2) (v := ?v52) rfl (by kernel_rfl) (by kernel_rfl) (by kernel_rfl) (by kernel_rfl) (fun _ _ _ h => h) (Or.inl ⟨by rfl, ?hy52⟩) (by assumption) ?_
                        case hy52 => intro w hSw; (try dsimp only at hSw); go_simp; try with_reducible rfl
                        simp only [Act.put, List.getElem_toArray, List.getElem_cons_zero, List.getElem_cons_succ, List.setIfInBounds_toArray, List.set_cons_zero, List.set_cons_succ]
                        refine wpAnyN_take (i := 3) (v := ?v53) rfl (by kernel_rfl) (by kernel_rfl) (by kernel_rfl) (by kernel_rfl) (fun _ _ _ h => h) (Or.inl ⟨by rfl, ?hy53⟩) (by assumption) ?_
                        case hy53 => intro w hSw; obtain ⟨x0, x1, x2, x3, x4, x5⟩ := BoxI.cells hSw; go_simp; try with_reducible rfl
                        simp only [Act.put, List.getElem_toArray, List.getElem_cons_zero, List.getElem_cons_succ, List.setIfInBounds_toArray, List.set_cons_zero, List.set_cons_succ]
                        refine wpAnyN_take (i := 4) (v := ?v54) rfl (by kernel_rfl) (by kernel_rfl) (by kernel_rfl) (by kernel_rfl) (fun _ _ _ h => h) (Or.inl ⟨by rfl, ?hy54⟩) (by assumption) ?_
                        case hy54 => intro w hSw; (try dsimp only at hSw); go_simp; try with_reducible rfl
                        simp only [Act.put, List.getElem_toArray, List.getElem_cons_zero, List.getElem_cons_succ, List.setIfInBounds_toArray, List.set_cons_zero, List.set_cons_succ]
                        refine wpAnyN_take (i := 5) (v := ?v55) rfl (by kernel_rfl) (by kernel_rfl) (by kernel_rfl) (by kernel_rfl) (fun _ _ _ h => h) (Or.inl ⟨by rfl, ?hy55⟩) (by assumption) ?_
                        case hy55 => intro w hSw; obtain ⟨x0, x1, x2, x3, x4, x5⟩ := BoxI.cells hSw; go_simp; try with_reducible rfl
                        simp only [Act.put, List.getElem_toArray, List.getElem_cons_zero, List.getElem_cons_succ, List.setIfInBounds_toArray, List.set_cons_zero, List.set_cons_succ]
                        refine wpAnyN_take (i := 6) (v := ?v56) rfl (by kernel_rfl) (by kernel_rfl) (by kernel_rfl) (by kernel_rfl) (fun _ _ _ h => h) (Or.inl ⟨by rfl, ?hy56⟩) (by assumption) ?_
                        case hy56 => intro w hSw; (try dsimp only at hSw); go_simp; try with_reducible rfl
                        simp only [Act.put, List.getElem_toArray, List.getElem_cons_zero, List.getElem_cons_succ, List.setIfInBounds_toArray, List.set_cons_zero, List.set_cons_succ]
                        refine wpAnyN_take (i := 7) (v := ?v57) rfl (by kernel_rfl) (by kernel_rfl) (by kernel_rfl) (by kernel_rfl) (fun _ _ _ h => h) (Or.inl ⟨by rfl, ?hy57⟩) (by assumption) ?_
                        case hy57 => intro w hSw; (try dsimp only at hSw); go_simp; try with_reducible rfl
                        simp only [Act.put, List.getElem_toArray, List.getElem_cons_zero, List.getElem_cons_succ, List.setIfInBounds_toArray, List.set_cons_zero, List.set_cons_succ]
                        refine wpAnyN_one (i := 8) (by kernel_rfl) rfl (fun K hK => ?_)
                        simp only [List.getElem_toArray, List.getElem_cons_zero, List.getElem_cons_succ]
                        go_simp
                        obtain ⟨w4, hw3⟩ : ∃ X, Hid (X = D.setCell ⟨k, 2, none⟩ (.int .i64 x.ar)) := ⟨_, rfl⟩
                        rw [← hw3.out]
                        have hS1 : BoxI w4 q x := by rw [hw3.out]; exact Blk.far HSX.out hqk _
                        refine hK _ _ (fun _ => hS1) ?_
                        have HSY := Lib.hid hS1
                        have H5 := Lib.hid (show CkAt (.int .i64 1) 150 w4 k g { c with args := x.ar } by rw [hw3.out]; exact ⟨by simpa using H4.out.1.set_ 2 (.int .i64 x.ar), H4.out.2.set_ hne.symm _⟩)
                        have HK5 := Lib.hid (show KeptK k g w w4 by rw [hw3.out]; exact HK4.out.set (.inl rfl) _)
                        clear hw3 c0 c1 c2 c3 c4 cl f2 hS0
                        obtain ⟨c0, c1, c2, c3, c4, cl⟩ := H5.out.cells
                        have f3 := H5.out.1.frozen 3
                        (try simp only [Act.put, List.setIfInBounds_toArray, List.set_cons_zero, List.set_cons_succ])
                        refine wpAnyN_take (i := 9) (v := ?v58) rfl (by kernel_rfl) (by kernel_rfl) (by kernel_rfl) (by kernel_rfl) (fun _ _ _ h => h) (Or.inl ⟨by rfl, ?hy58⟩) (by assumption) ?_
                        case hy58 => intro w hSw; (try dsimp only at hSw); go_simp; try with_reducible rfl
                        simp only [Act.put, List.getElem_toArray, List.getElem_cons_zero, List.getElem_cons_succ, List.setIfInBounds_toArray, List.set_cons_zero, List.set_cons_succ]
                        refine wpAnyN_take (i := 10) (v := ?v59) rfl (by kernel_rfl) (by kernel_rfl) (by kernel_rfl) (by kernel_rfl) (fun _ _ _ h => h) (Or.inl ⟨by rfl, ?hy59⟩) (by assumption) ?_
                        case hy59 => intro w hSw; (try dsimp only at hSw); go_simp; try with_reducible rfl
                        simp only [Act.put, List.getElem_toArray, List.getElem_cons_zero, List.getElem_cons_succ, List.setIfInBounds_toArray, List.set_cons_zero, List.set_cons_succ]
                        refine wpAnyN_one (i := 11) (by kernel_rfl) rfl (fun K hK => ?_)
                        simp only [List.getElem_toArray, List.getElem_cons_zero, List.getElem_cons_succ]
                        go_simp
                        obtain ⟨w5, hw4⟩ : ∃ X, Hid (X = w4.setCell ⟨k, 3, none⟩ (.int .i64 x.r)) := ⟨_, rfl⟩
                        rw [← hw4.out]
                        have hS2 : BoxI w5 q x := by rw [hw4.out]; exact Blk.far HSY.out hqk _
                        refine hK _ _ (fun _ => hS2) ?_
                        have HSZ := Lib.hid hS2
                        have H6 := Lib.hid (show CkAt (.int .i64 1) 150 w5 k g { c with args := x.ar, pend := x.r } by rw [hw4.out]; exact ⟨by simpa using H5.out.1.set_ 3 (.int .i64 x.r), H5.out.2.set_ hne.symm _⟩)
                        have HK6 := Lib.hid (show KeptK k g w w5 by rw [hw4.out]; exact HK5.out.set (.inl rfl) _)
                        clear hw4 c0 c1 c2 c3 c4 cl f3 hS1
                        (try simp only [Act.put, List.setIfInBounds_toArray, List.set_cons_zero, List.set_cons_succ])
                        refine wpAnyN_done (by kernel_rfl) ?_ _
                        clear hS2
                        obtain ⟨x0, x1, x2, x3, x4, x5⟩ := BoxI.cells HSZ.out
                        go_wp2_with fail
                        refine (rexists_any { c with args := x.ar, pend := x.r } k g x.r w5 HXR.out H6.out).mono ?_
                        rintro e w6 ⟨rfl, rfl⟩
                        have HF := Lib.hid (show (stepP c x fi la).isSome = exP { c with args := x.ar, pend := x.r } x.r by rw [HE.out]; show _ = exP c x.r; cases exP c x.r <;> rfl)
                        clear x0 x1 x2 x3 x4 x5
                        go_wp2_with fail
                        go_ret
                        refine ⟨ret_bool HF.out.symm, fun c' h => ?_, HK6.out⟩
                        rw [HE.out] at h
                        split at h
                        · injection h with h
                          rw [← h]
                          exact H6.out
                        · cases h
                      · have q15 : (x.op == 15) = false := by simpa using h15
                        by_cases h19 : x.op = 19
                        · have q19 : (x.op == 19) = true := by simpa using h19
                          have HE := Lib.hid (show stepP c x fi la = if 0 ≤ c.env then some { c with d := fun r => c.d r && !decide (0 < r), called := true } else none by rw [HS.out, if_neg h5, if_neg h15, if_neg h16, if_neg h17, if_neg h18, if_pos h19])
                          clear h5 h15 h16 h17 h18 h19 h20 x0 x1 x2 x3 x4 x5 c0 c1 c2 c3 c4 cl
                          go_wp2_with fail
                          go_loopw [13] (fun i wr => ∃ j : Nat, i = .int .i64 j ∧ 1 ≤ j ∧ j ≤ 4097 ∧ Hid (CkAt (.int .i64 1) 150 wr k g { c with d := fun r => c.d r && !(decide (0 < r) && decide (r < (j : Int))) }) ∧ Hid (KeptK k g w wr)) (fun i _ => 4097 - (intOf i).toNat)
                          case atStart =>
                            refine ⟨1, rfl, Nat.le_refl _, by omega, Lib.hid ⟨H3.out.1, H3.out.2.congr (fun r => ?_)⟩, HK3⟩
                            have e : (decide (0 < r) && decide (r < ((1 : Nat) : Int))) = false := by
                              by_cases h : 0 < r
                              · have : decide (r < ((1 : Nat) : Int)) = false := by simp; omega
                                rw [this, Bool.and_false]
                              · have : decide (0 < r) = false := by simpa using h
                                rw [this, Bool.false_and]
                            show c.d r = (c.d r && !(decide (0 < r) && decide (r < ((1 : Nat) : Int))))
                            rw [e]; simp
                          case round =>
                            obtain ⟨j, rfl, hj1, hj2, HCL, HW⟩ := hrel
                            by_cases hlt : j ≤ 4096
                            · have q1 : decide ((j : Int) ≤ 4096) = true := by simp; omega
                              obtain ⟨c0, c1, c2, c3, c4, cl⟩ := HCL.out.cells
                              go_wp2_with (at_delete; refine wpList_delete_set _ rfl _ _ 148 rfl 3 under148 g _ rfl HCL.out.2 (j : Int) rfl ?_; intro w5 hs5 hg5 hz5)
                              refine ⟨⟨j + 1, by simp, by omega, by omega, Lib.hid (show CkAt _ _ w5 k g { c with d := fun r => c.d r && !(decide (0 < r) && decide (r < ((j + 1 : Nat) : Int))) } from ⟨(HCL.out.upd hs5 hg5).1, hs5.congr (fun r => ?_)⟩), Lib.hid (HW.out.grown hg5 (fun i hi => by injection hi with hi; exact .inr (.inl hi.symm)))⟩, by simp [intOf]; omega⟩
                              exact call_del r j hj1 (c.d r)
                            · have q1 : decide ((j : Int) ≤ 4096) = false := by simp; omega
                              have hj3 : j = 4097 := by omega
                              subst hj3
                              have HSF := Lib.hid (show CkAt (.int .i64 1) 150 _ k g { c with d := fun r => c.d r && !decide (0 < r) } from ⟨HCL.out.1, HCL.out.2.congr (fun r => by
                                show (c.d r && !(decide (0 < r) && decide (r < ((4097 : Nat) : Int)))) = (c.d r && !decide (0 < r))
                                cases hx : c.d r
                                · rfl
                                · have h9 := HC.out.d r hx
                                  have : decide (r < ((4097 : Nat) : Int)) = true := by simp; omega
                                  rw [this, Bool.and_true])⟩)
                              clear HCL
                              obtain ⟨c0, c1, c2, c3, c4, cl⟩ := HSF.out.cells
                              have f4 := HSF.out.1.frozen 4
                              have HFS := Lib.hid (show (stepP c x fi la).isSome = decide (0 ≤ c.env) by rw [HE.out]; split <;> simp [*])
                              go_wp2_with fail
                              go_ret
                              refine ⟨ret_bool HFS.out.symm, fun c' h => ?_, HW.out.set (.inl rfl) _⟩
                              rw [HE.out] at h
                              rcases ite_some h with ⟨_, h⟩ | ⟨_, h⟩
                              · injection h with h
                                rw [← h]
                                exact ⟨by simpa using HSF.out.1.set_ 4 (.bool true), HSF.out.2.set_ hne.symm _⟩
                              · cases h
                        · have q19 : (x.op == 19) = false := by simpa using h19
                          by_cases h22 : x.op = 22
                          · have q22 : (x.op == 22) = true := by simpa using h22
                            have HE := Lib.hid (show stepP c x fi la = if c.called = true then none else wrP c [x.r] by rw [HS.out, if_neg h5, if_neg h15, if_neg h16, if_neg h17, if_neg h18, if_neg h19, if_neg h20, if_pos h22])
                            have HXR := Lib.hid (HF.out.r15 (.inr h22)).2
                            clear h5 h15 h16 h17 h18 h19 h20 h22
                            cases hcl : c.called
                            · have HE2 := Lib.hid (show stepP c x fi la = wrP c [x.r] by rw [HE.out, if_neg (by rw [hcl]; simp)])
                              rw [hcl] at c4
                              clear hcl
                              go_wp2_with fail
                              refine (define_any c k g x.r w3 HXR.out H3.out).mono ?_
                              rintro e w4 ⟨rfl, hck, hkp⟩
                              have HK4 := Lib.hid (HK3.out.trans hkp)
                              have HCK := Lib.hid hck
                              have HWE := Lib.hid (wr_one c x.r)
                              clear hck hkp x0 x1 x2 x3 x4 x5 c0 c1 c2 c3 c4 cl
                              go_wp2_with fail
                              go_ret
                              refine ⟨ret_bool (by rw [HE2.out, HWE.out]; cases exP c x.r <;> rfl), fun c' h => ?_, HK4.out⟩
                              rw [HE2.out, HWE.out] at h
                              rcases ite_some h with ⟨he, h⟩ | ⟨_, h⟩
                              · injection h with h
                                rw [← h]
                                exact HCK.out he
                              · cases h
                            · have HE2 := Lib.hid (show stepP c x fi la = none by rw [HE.out, if_pos hcl])
                              rw [hcl] at c4
                              clear hcl
                              go_wp2_with fail
                              go_ret
                              exact ⟨ret_bool (by rw [HE2.out]; rfl), fun c' h => (by rw [HE2.out] at h; cases h), HK3.out⟩
                          · have q22 : (x.op == 22) = false := by simpa using h22
                            have HE := Lib.hid (show stepP c x fi la = wrP c (wrOf x) by rw [HS.out, if_neg h5, if_neg h15, if_neg h16, if_neg h17, if_neg h18, if_neg h19, if_neg h20, if_neg h22])
                            clear h5 h15 h16 h17 h18 h19 h20 h22
                            go_wp2_with fail
                            refine (Writes_any x w3).mono ?_
                            rintro e w4 ⟨v, rfl, ho⟩
                            obtain ⟨A3, cp3, rfl, hrow⟩ := rowI_of (k := k) (g := g) ho HF.out.wl H3.out.1.lt H3.out.2.lt
                            have H4 := Lib.hid (H3.out.next ho.2)
                            have HK4 := Lib.hid (HK3.out.trans (KeptK.of ho.2))
                            have HROW := Lib.hid hrow
                            have hlen := hrow.1.2
                            obtain ⟨m, hm⟩ : ∃ m, Hid (m = (wrOf x).length) := ⟨_, rfl⟩
                            rw [← hm.out] at HROW hlen ⊢
                            clear ho hrow c0 c1 c2 c3 c4 cl x0 x1 x2 x3 x4 x5 H3 HK3 HX3
                            go_wp2_with fail
                            go_loopw [15] (fun i wr => ∃ j : Nat, i = .int .i64 j ∧ j ≤ m ∧ Hid (∃ c', wrP c ((wrOf x).take j) = some c' ∧ CkAt (.int .i64 1) 150 wr k g c') ∧ Hid (KeptK k g w4 wr)) (fun i _ => m - (intOf i).toNat)
                            case atStart => exact ⟨0, rfl, Nat.zero_le _, Lib.hid ⟨c, by simp [wrP], H4.out⟩, Lib.hid (KeptK.refl _ _ _)⟩
                            case round =>
                              obtain ⟨j, rfl, hj, HCI, HKI⟩ := hrel
                              by_cases hlt : j < m
                              · obtain ⟨b, off, rfl, hbl, hbk, hbg, hcell⟩ := HROW.out.2 (by omega)
                                have hx : (wrOf x)[j]? = some ((wrOf x)[j]'(by rw [HROW.out.1.1]; exact hlt)) := List.getElem?_eq_getElem _
                                obtain ⟨y, hxe⟩ : ∃ y, (wrOf x)[j]? = some y := ⟨_, hx⟩
                                clear hx
                                have e1 : wr.cell? ⟨b, off + j, none⟩ = some (.int .i64 y) := (World.cell?_of_block (w := w4) (w' := wr) (a := ⟨b, off + j, none⟩) (HKI.out.block b hbl hbk hbg)).trans (hcell j y hxe)
                                have el : b < wr.heap.size := Nat.lt_of_lt_of_le hbl HKI.out.size
                                have HY := Lib.hid hxe
                                clear hcell hxe hbl hbk hbg
                                obtain ⟨c', hc', hck⟩ := HCI.out
                                have HCW := Lib.hid hc'
                                have HCK := Lib.hid hck
                                clear hc' hck
                                have hlj : decide ((j : Int) < (m : Int)) = true := by simp; omega
                                go_wp2_with fail
                                refine (define_any c' k g y wr (HF.out.wr y (List.mem_of_getElem? HY.out)).2 HCK.out).mono ?_
                                rw [wr_ex HCW.out]
                                rintro e w5 ⟨rfl, hck, hkp⟩
                                have HK5 := Lib.hid (HKI.out.trans hkp)
                                have HC5 := Lib.hid hck
                                clear hck hkp
                                cases he : exP c y
                                · have HE2 := Lib.hid (wr_stop HY.out he)
                                  clear he
                                  go_wp2_with fail
                                  go_ret
                                  exact ⟨ret_bool (by rw [HE.out, HE2.out]; rfl), fun c' h => (by rw [HE.out, HE2.out] at h; cases h), HK4.out.trans HK5.out⟩
                                · have HS2 := Lib.hid (wr_step HY.out HCW.out he)
                                  have HC6 := Lib.hid (HC5.out he)
                                  clear he
                                  go_wp2_with fail
                                  exact ⟨⟨j + 1, by go_num, hlt, Lib.hid ⟨_, HS2.out, HC6.out⟩, HK5⟩, by simp [intOf]; omega⟩
                              · have hlj : decide ((j : Int) < (m : Int)) = false := by simp; omega
                                have HFL := Lib.hid (show (wrOf x).take j = wrOf x from List.take_of_length_le (by rw [HROW.out.1.1]; omega))
                                go_wp2_with fail
                                go_ret
                                obtain ⟨c', hc', hck⟩ := HCI.out
                                rw [HFL.out] at hc'
                                exact ⟨ret_bool (by rw [HE.out, hc']; rfl), fun c2 h2 => (by rw [HE.out, hc'] at h2; injection h2 with h2; rw [← h2]; exact hck), HK4.out.trans HKI.out⟩
end
section
open Go.RowKit


theorem beg_next {j : Nat} (h1 : 1 ≤ j) (x : Int) : ((begP ((j : Int) - 1)).d x || x == (j : Int)) = (begP (((j + 1 : Nat) : Int) - 1)).d x := by
  simp only [begP]
  by_cases h : x = (j : Int)
  · subst h
    have e1 : decide (1 ≤ (j : Int)) = true := by simp; omega
    have e2 : decide ((j : Int) ≤ ((j + 1 : Nat) : Int) - 1) = true := by simp
    rw [e1, e2]; simp
  · have e : (x == (j : Int)) = false := by simpa using h
    rw [e, Bool.or_false]
    congr 1
    rw [decide_eq_decide]
    omega
theorem beg_start {w w2 : World} {k g : Nat} {p : Array Value} {pt : TypeId} (eg : g = w.heap.size + 1) (ek : k = w.heap.size + 1 + 1)
    (ew : w2 = ((w.alloc (.cells p pt)).alloc (.map #[] 0)).alloc (.cells #[.map (some (w.heap.size + 1)), .int .i64 (-1), .int .i64 0, .int .i64 0, .bool false] 150)) : CkAt (.int .i64 1) 150 w2 k g (begP (((1 : Nat) : Int) - 1)) := by
  subst eg ek ew
  refine ⟨?_, ?_⟩
  · have h := Blk.new ((w.alloc (.cells p pt)).alloc (.map #[] 0)) 150 #[.map (some (w.heap.size + 1)), .int .i64 (-1), .int .i64 0, .int .i64 0, .bool false]
    rw [World.size_alloc, World.size_alloc] at h
    exact h
  · have h := SetI.new (v := .int .i64 1) (w.alloc (.cells p pt))
    rw [World.size_alloc] at h
    exact (h.alloc _).congr (fun x => by
      show false = (decide (1 ≤ x) && decide (x ≤ (((1 : Nat) : Int) - 1)))
      by_cases h : 1 ≤ x
      · have : decide (x ≤ (((1 : Nat) : Int) - 1)) = false := by simp; omega
        rw [this, Bool.and_false]
      · have : decide (1 ≤ x) = false := by simpa using h
        rw [this, Bool.false_and])
set_option maxHeartbeats 1000000 in
theorem Begin_any (nm : ByteArray) (ar aux : Int) (w : World) (hp : 0 ≤ ar ∧ ar ≤ 4096) :
    Calls Tryz.prog 89 #[.agg #[.string nm, .int .i64 ar, .int .i64 aux]] w fun e w' => ∃ k g, e = .returned (.pointer (some ⟨k, 0, none⟩)) ∧ CkAt (.int .i64 1) 150 w' k g (begP ar) ∧ w.heap.size ≤ k ∧ w.heap.size ≤ g ∧ Below w.heap.size w w' := by
  have HP := Lib.hid hp
  have hmm := @run_makeMap Tryz.prog
  clear hp
  go_enter Tryz.func89, Tryz.ntmps89
  go_upto_region 2 with fail
  obtain ⟨q, hq⟩ : ∃ q, Hid (q = w.heap.size) := ⟨_, rfl⟩
  obtain ⟨g, hg⟩ : ∃ q, Hid (q = w.heap.size + 1) := ⟨_, rfl⟩
  obtain ⟨k, hk⟩ : ∃ q, Hid (q = w.heap.size + 1 + 1) := ⟨_, rfl⟩
  obtain ⟨w1, hw1⟩ : ∃ X, Hid (X = ((w.alloc (.cells #[.string nm, .int .i64 ar, .int .i64 aux] 23)).alloc (.map #[] 0)).alloc (.cells #[.map (some (w.heap.size + 1)), .int .i64 (-1), .int .i64 0, .int .i64 0, .bool false] 150)) := ⟨_, rfl⟩
  have HS := Lib.hid (beg_start hg.out hk.out hw1.out)
  have HQ := Lib.hid (show Blk w1 q 23 #[.string nm, .int .i64 ar, .int .i64 aux] by rw [hw1.out, hq.out]; exact ((Blk.new _ _ _).alloc _).alloc _)
  have HB := Lib.hid (show Below w.heap.size w w1 by rw [hw1.out]; exact ((bAlloc w _).alloc (by simp) _).alloc (by simp; omega) _)
  have HPL := Lib.hid (show q ≠ k ∧ q ≠ g ∧ w.heap.size ≤ k ∧ w.heap.size ≤ g by rw [hq.out, hk.out, hg.out]; omega)
  rw [← hw1.out, ← hk.out, ← hg.out, ← hq.out]
  clear hq hg hk hw1
  go_wp2_with fail
  go_loopw [4] (fun i wr => ∃ j : Nat, i = .int .i64 j ∧ 1 ≤ j ∧ Hid ((j : Int) ≤ ar + 1) ∧ Hid (CkAt (.int .i64 1) 150 wr k g (begP ((j : Int) - 1))) ∧ Hid (KeptK k g w1 wr)) (fun i _ => ar.toNat + 1 - (intOf i).toNat)
  case atStart => exact ⟨1, rfl, Nat.le_refl _, Lib.hid (by have := HP.out; omega), HS, Lib.hid (KeptK.refl _ _ _)⟩
  case round =>
    obtain ⟨j, rfl, hj, HJ, HC, HK⟩ := hrel
    have hqb : Blk wr q 23 #[.string nm, .int .i64 ar, .int .i64 aux] := (HK.out.block q HQ.out.lt HPL.out.1 HPL.out.2.1).trans HQ.out
    have e1 := hqb.cell 1
    have el := hqb.lt
    simp at e1
    clear hqb
    by_cases hlt : (j : Int) ≤ ar
    · have hlj : decide ((j : Int) ≤ ar) = true := by simpa using hlt
      have hw : IntKind.wrap .i64 ((j : Int) + 1) = (j : Int) + 1 := wrapI (by have := HP.out; omega)
      have HLT := Lib.hid hlt
      clear hlt
      obtain ⟨c0, c1, c2, c3, c4, cl⟩ := HC.out.cells
      go_wp2_with (at_mapUpdate; refine wpList_update_set _ rfl _ _ _ 148 rfl 3 under148 g _ rfl HC.out.2 (j : Int) rfl rfl ?_; intro w3 hs3 hg3 hz3)
      exact ⟨⟨j + 1, by go_num, by omega, Lib.hid (by have := HLT.out; omega), Lib.hid ⟨(HC.out.upd hs3 hg3).1, hs3.congr (beg_next hj)⟩, Lib.hid (HK.out.grown hg3 (fun i hi => by injection hi with hi; exact .inr (.inl hi.symm)))⟩, by have := HLT.out; simp [intOf]; omega⟩
    · have hlj : decide ((j : Int) ≤ ar) = false := by simpa using hlt
      have HF := Lib.hid (show CkAt (.int .i64 1) 150 wr k g (begP ar) by have e : (j : Int) - 1 = ar := by { have := HJ.out; omega }; rw [← e]; exact HC.out)
      clear hlt HC HJ
      go_wp2_with fail
      go_ret
      exact ⟨k, g, rfl, HF.out, HPL.out.2.2.1, HPL.out.2.2.2, HB.out.trans (HK.out.low HPL.out.2.2.1 HPL.out.2.2.2 HB.out.size)⟩
theorem upto_bad {ar : Int} {l : List In} {i : Nat} {x : In} (hx : l[i]? = some x) (hf : fo x = false) : upto ar l (i + 1) = none := by
  show (upto ar l i).bind _ = _
  cases upto ar l i with
  | none => rfl
  | some c => rw [hx, Option.bind_some, Option.bind_some, hf]; rfl
set_option maxRecDepth 100000 in
set_option maxHeartbeats 4000000 in
theorem Valid_any (b : Bk) (A : Option Addr) (c : Nat) (w : World) (ha : InsAt w w.heap.size A b.code.length b.code) : Calls Tryz.prog 56 #[b.v A c] w fun e w' => e = .returned (.bool (vaP b)) ∧ Below w.heap.size w w' := by
  have HA := Lib.hid ha
  have hnl := ha.1.2
  clear ha
  obtain ⟨W, HW⟩ : ∃ X, Hid (X = w.alloc (.cells #[.int .i64 b.id, .string b.pn, .int .i64 b.par, .int .i64 b.paux, .int .i64 b.kk, .int .i64 b.kn, .string b.knm, .int .i64 b.kar, .slice A b.code.length c] 28)) := ⟨_, rfl⟩
  obtain ⟨q, hq⟩ : ∃ q, Hid (q = w.heap.size) := ⟨_, rfl⟩
  have HB := Lib.hid (show Below w.heap.size w W by rw [HW.out]; exact bAlloc _ _)
  have HK := Lib.hid (show Blk W q 28 #[.int .i64 b.id, .string b.pn, .int .i64 b.par, .int .i64 b.paux, .int .i64 b.kk, .int .i64 b.kn, .string b.knm, .int .i64 b.kar, .slice A b.code.length c] by rw [HW.out, hq.out]; exact Blk.new _ _ _)
  have HQW := Lib.hid (show q < W.heap.size by rw [HW.out, hq.out]; simp)
  have hqw : w.heap.size ≤ q := by rw [hq.out]; exact Nat.le_refl _
  go_enter Tryz.func56, Tryz.ntmps56
  go_upto_region 1 with fail
  rw [← HW.out, ← hq.out]
  clear HW hq
  have c0 := HK.out.cell 0
  have c1 := HK.out.cell 1
  have c2 := HK.out.cell 2
  have c3 := HK.out.cell 3
  have c4 := HK.out.cell 4
  have c5 := HK.out.cell 5
  have c6 := HK.out.cell 6
  have c7 := HK.out.cell 7
  have c8 := HK.out.cell 8
  have cl := HK.out.lt
  simp at c0 c1 c2 c3 c4 c5 c6 c7 c8
  obtain ⟨n, hn⟩ : ∃ n, Hid (n = b.code.length) := ⟨_, rfl⟩
  rw [← hn.out] at c8 hnl
  go_wp2_with fail
  rw [hn.out]
  refine (ValidHead_any b A c W).mono ?_
  rintro e w1 ⟨rfl, hb⟩
  have HB1 := Lib.hid (bNext HB.out hb)
  have HK1 := Lib.hid (HK.out.below hb HK.out.lt)
  have HS1 := Lib.hid hb.size
  clear hb c0 c1 c2 c3 c4 c5 c6 c7 c8 cl
  rw [← hn.out]
  cases hp : hdP b
  · have HE := Lib.hid (vaP_head hp)
    clear hp
    go_wp2_with fail
    go_ret
    exact ⟨ret_bool HE.out.symm, HB1.out⟩
  · by_cases h1 : 1 ≤ b.code.length
    · by_cases h2 : b.code.length ≤ 131072
      · have q1 : decide ((n : Int) < 1) = false := by rw [hn.out]; simp; omega
        have q2 : decide (131072 < (n : Int)) = false := by rw [hn.out]; simp; omega
        have HV := Lib.hid (vaP_run hp h1 h2)
        have HP := Lib.hid (hd_par hp)
        have HL := Lib.hid (show n ≤ 131072 by rw [hn.out]; exact h2)
        clear hp h1 h2
        go_wp2_with fail
        go_loopw [4] (fun i wr => ∃ j : Nat, i = .int .i64 j ∧ j ≤ n ∧ Hid (Below w1.heap.size w1 wr) ∧ Hid (∀ i x, i < j → b.code[i]? = some x → fo x = true)) (fun i _ => n - (intOf i).toNat)
        case atStart => exact ⟨0, rfl, Nat.zero_le _, Lib.hid (Below.refl _ _), Lib.hid (fun i x h => absurd h (by omega))⟩
        case round =>
          obtain ⟨j, rfl, hj, HBW, HALL⟩ := hrel
          have HB2 := Lib.hid (bNext HB1.out HBW.out)
          have HK2 := Lib.hid (HK1.out.below HBW.out HK1.out.lt)
          have c0 := HK2.out.cell 0
          have c1 := HK2.out.cell 1
          have c2 := HK2.out.cell 2
          have c3 := HK2.out.cell 3
          have c4 := HK2.out.cell 4
          have c5 := HK2.out.cell 5
          have c6 := HK2.out.cell 6
          have c7 := HK2.out.cell 7
          have c8 := HK2.out.cell 8
          have cl := HK2.out.lt
          simp at c0 c1 c2 c3 c4 c5 c6 c7 c8
          rw [← hn.out] at c8
          by_cases hlt : j < n
          · obtain ⟨bb, off, x, rfl, hbb, hx, hcs⟩ := HA.out.at (by rw [← hn.out]; exact hlt)
            have hx6 := hcs.below hbb HB2.out
            obtain ⟨q0, q1', q2', q3, q4, q5⟩ := hx6
            have HX := Lib.hid hx
            have hbz : bb < wr.heap.size := by have := HB2.out.size; omega
            have hlj : decide ((j : Int) < (n : Int)) = true := by simp; omega
            have hji : IntKind.wrap .i64 ((j : Int) + 1) = (j : Int) + 1 := wrapI (by have := HL.out; omega)
            clear hx hcs hbb
            go_wp2_with fail
            refine (Formed_any x wr).mono ?_
            rintro e w3 ⟨rfl, hb3⟩
            have HB3 := Lib.hid (bNext HBW.out hb3)
            clear hb3 q0 q1' q2' q3 q4 q5 c0 c1 c2 c3 c4 c5 c6 c7 c8 cl
            cases hfo : fo x
            · have HE := Lib.hid (show vaP b = false by rw [HV.out]; exact upto_stop (by rw [← hn.out]; exact hlt) (upto_bad HX.out hfo))
              have HB4 := Lib.hid (bNext HB1.out HB3.out)
              clear hfo
              go_wp2_with fail
              go_ret
              exact ⟨ret_bool HE.out.symm, HB4.out⟩
            · have HFO := Lib.hid hfo
              clear hfo
              go_wp2_with fail
              refine ⟨⟨j + 1, by go_num, hlt, HB3, Lib.hid (fun i y hi hy => ?_)⟩, by simp [intOf]; omega⟩
              by_cases e : i = j
              · subst e
                rw [HX.out] at hy
                injection hy with hy
                rw [← hy]; exact HFO.out
              · exact HALL.out i y (by omega) hy
          · have hlj : decide ((j : Int) < (n : Int)) = false := by simp; omega
            have HAL := Lib.hid (show ∀ i x, b.code[i]? = some x → fo x = true from fun i x hx => HALL.out i x (by have := (List.getElem?_eq_some_iff.1 hx).1; rw [← hn.out] at this; omega) hx)
            clear HALL
            go_wp2_with fail
            refine (Begin_any b.pn b.par b.paux wr HP.out).mono ?_
            rintro e w3 ⟨k, g, rfl, hck, hk, hg, hb3⟩
            have HS3 := Lib.hid (show VaS w w3 q k g (.int .i64 1) 150 b A c (begP b.par) from ⟨hck, HK2.out.below hb3 HK2.out.lt, bNext HB2.out hb3, by have h1 := HB2.out.size; have h2 := HK2.out.lt; omega, by have h1 := HB2.out.size; omega, hqw, by have h2 := HK2.out.lt; omega, by have h2 := HK2.out.lt; omega⟩)
            clear hck hk hg hb3 HB2 HK2 HBW HB1 HK1 HS1 HB HK HQW c0 c1 c2 c3 c4 c5 c6 c7 c8 cl
            go_wp2_with fail
            go_loopw [6] (fun i wr => ∃ j : Nat, i = .int .i64 j ∧ j ≤ n ∧ Hid (∃ ck, upto b.par b.code j = some ck ∧ VaS w wr q k g (.int .i64 1) 150 b A c ck)) (fun i _ => n - (intOf i).toNat)
            case atStart => exact ⟨0, rfl, Nat.zero_le _, Lib.hid ⟨_, rfl, HS3.out⟩⟩
            case round =>
              obtain ⟨j, rfl, hj, HI⟩ := hrel
              clear HS3
              obtain ⟨ck, hup, hvs⟩ := HI.out
              have HUP := Lib.hid hup
              have HVS := Lib.hid hvs
              clear hup hvs HI
              by_cases hlt : j < n
              · obtain ⟨bb, off, x, rfl, hbb, hx, hcs⟩ := HA.out.at (by rw [← hn.out]; exact hlt)
                have hx6 := hcs.below hbb HVS.out.bl
                obtain ⟨q0, q1', q2', q3, q4, q5⟩ := hx6
                have HX := Lib.hid hx
                have hbz : bb < _ := Nat.lt_of_lt_of_le hbb HVS.out.bl.size
                have hlj : decide ((j : Int) < (n : Int)) = true := by simp; omega
                have hji : IntKind.wrap .i64 ((j : Int) + 1) = (j : Int) + 1 := wrapI (by have := HL.out; omega)
                have HFO := Lib.hid (HAL.out j x hx)
                have HOK := Lib.hid (upto_ok HP.out.2 j HUP.out)
                have hwn : IntKind.wrap .i64 ((n : Int) - 1) = (n : Int) - 1 := wrapI (by omega)
                have hf0 : ((j : Int) == 0) = (j == 0) := by rw [Bool.eq_iff_iff]; simp
                have hf1 : ((j : Int) == (n : Int) - 1) = (j + 1 == n) := by rw [Bool.eq_iff_iff]; simp; omega
                have HUT := Lib.hid (show upto b.par b.code (j + 1) = stepP ck x (j == 0) (j + 1 == n) by rw [upto_step HUP.out HX.out, if_pos HFO.out, hn.out])
                have c0 := HVS.out.bx.cell 0
                have c1 := HVS.out.bx.cell 1
                have c2 := HVS.out.bx.cell 2
                have c3 := HVS.out.bx.cell 3
                have c4 := HVS.out.bx.cell 4
                have c5 := HVS.out.bx.cell 5
                have c6 := HVS.out.bx.cell 6
                have c7 := HVS.out.bx.cell 7
                have c8 := HVS.out.bx.cell 8
                have cl := HVS.out.bx.lt
                simp at c0 c1 c2 c3 c4 c5 c6 c7 c8
                rw [← hn.out] at c8
                clear hx hcs hbb
                go_wp2_with fail
                refine (Step_any ck x (j == 0) (j + 1 == n) k g _ HOK.out HFO.out HVS.out.ck).mono ?_
                rintro e w6 ⟨rfl, hck, hkp⟩
                have HKP := Lib.hid hkp
                have HCK := Lib.hid hck
                clear hck hkp q0 q1' q2' q3 q4 q5 c0 c1 c2 c3 c4 c5 c6 c7 c8 cl
                cases hst : stepP ck x (j == 0) (j + 1 == n) with
                | none =>
                  have HE := Lib.hid (show vaP b = false by rw [HV.out]; exact upto_stop (by rw [← hn.out]; exact hlt) (by rw [HUT.out, hst]))
                  have HBL := Lib.hid (HVS.out.low HKP.out)
                  clear hst
                  go_wp2_with fail
                  go_ret
                  exact ⟨ret_bool HE.out.symm, HBL.out⟩
                | some c2 =>
                  have HU2 := Lib.hid (show upto b.par b.code (j + 1) = some c2 by rw [HUT.out, hst])
                  have HV2 := Lib.hid (HVS.out.kept HKP.out (HCK.out c2 hst))
                  clear hst
                  go_wp2_with fail
                  exact ⟨⟨j + 1, by go_num, hlt, Lib.hid ⟨_, HU2.out, HV2.out⟩⟩, by simp [intOf]; omega⟩
              · have hlj : decide ((j : Int) < (n : Int)) = false := by simp; omega
                have HE := Lib.hid (show vaP b = true by rw [HV.out, show b.code.length = j by rw [← hn.out]; omega, HUP.out]; rfl)
                go_wp2_with fail
                go_ret
                exact ⟨ret_bool HE.out.symm, HVS.out.bl⟩
      · have q1 : decide ((n : Int) < 1) = false := by rw [hn.out]; simp; omega
        have q2 : decide (131072 < (n : Int)) = true := by rw [hn.out]; simp; omega
        have HE := Lib.hid (vaP_high h2)
        clear hp h1 h2
        go_wp2_with fail
        go_ret
        exact ⟨ret_bool HE.out.symm, HB1.out⟩
    · have q1 : decide ((n : Int) < 1) = true := by rw [hn.out]; simp; omega
      have HE := Lib.hid (vaP_low h1)
      clear hp h1
      go_wp2_with fail
      go_ret
      exact ⟨ret_bool HE.out.symm, HB1.out⟩
end
end Go.Proofs.YtbipeakinmbdiaaGreatDoor
