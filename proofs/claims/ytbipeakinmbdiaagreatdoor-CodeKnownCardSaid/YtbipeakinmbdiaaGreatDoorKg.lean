/-
  Plain: a step of the check of a block; walk: an argument instruction (code). Walk: a step of the check of a block (code). Plain: what holds of well-formed instructions, and of the check at each place.
-/
import Derived.Test.YtbipeakinmbdiaaGreatDoorKf
import Derived.Test.YtbipeakinmbdiaaGreatDoorKa
import Derived.Outline
namespace Go.Proofs.YtbipeakinmbdiaaGreatDoor
section
open Go.RowKit

def isArg (op : Int) : Bool := decide (6 ≤ op) && decide (op ≤ 10)
def isEnd (op : Int) : Bool := op == 20 || (op == 21 || op == 25)
/-- the register that waits for the last argument is defined -/
def endP (c : Ck) : Ck := if c.args = 0 ∧ c.pend ≠ 0 then { c with d := fun x => c.d x || x == c.pend, pend := 0 } else c
def argN (x : In) : Int := if x.op = 10 then x.n else 1
def argP (c : Ck) (x : In) : Option Ck := if c.args - argN x < 0 then none else (wrP { c with args := c.args - argN x } (wrOf x)).map endP
def stepP (c : Ck) (x : In) (first last : Bool) : Option Ck :=
  if (isArg x.op != decide (0 < c.args)) = true ∨ (isEnd x.op != last) = true then none
  else if (rdOf x).all c.d = false then none
  else if isArg x.op = true then argP c x
  else if x.op = 5 then some { c with args := x.ar }
  else if x.op = 15 then (if exP c x.r = true then some { c with args := x.ar, pend := x.r } else none)
  else if x.op = 16 then (if first = true then some { c with env := x.n } else none)
  else if x.op = 17 then (if c.env < x.n then none else some (rzP c x.n))
  else if x.op = 18 then (if c.env < 0 then none else some (rzP c (-1)))
  else if x.op = 19 then (if 0 ≤ c.env then some { c with d := fun r => c.d r && !decide (0 < r), called := true } else none)
  else if x.op = 20 ∨ x.op = 21 then (if c.env < 0 then some c else none)
  else if x.op = 22 then (if c.called = true then none else wrP c [x.r])
  else wrP c (wrOf x)
/-- what holds of a check at each place -/
structure CkOk (c : Ck) : Prop where
  env : -1 ≤ c.env ∧ c.env ≤ 4096
  args : 0 ≤ c.args ∧ c.args ≤ 8
  pend : -4096 ≤ c.pend ∧ c.pend ≤ 4096
  d : ∀ r, c.d r = true → r ≠ 0 ∧ -4096 ≤ r ∧ r ≤ 4096
theorem BlkNext {w w' : World} {g : Nat} {t : TypeId} {cs : Array Value} (h : Blk w g t cs) (hb : Below w.heap.size w w') : Blk w' g t cs := h.below hb h.lt
theorem own_form2 {w : World} {base n : Nat} {e : TypeId} {size : Nat} {v : Value} {xs : List Value} (h : w.ownsRow base e size v n xs) : ∃ A c, v = .slice A n c := by
  rcases h.2 with ⟨rfl, rfl⟩ | ⟨g, cap, cur, rfl, _⟩
  · exact ⟨_, _, rfl⟩
  · exact ⟨_, _, rfl⟩
theorem own_some2 {w : World} {base n : Nat} {e : TypeId} {size : Nat} {v : Value} {xs : List Value} (h : w.ownsRow base e size v n xs) (hn : 0 < n) : ∃ g cap, v = .slice (some ⟨g, 0, none⟩) n cap := by
  rcases h.2 with ⟨rfl, h0⟩ | ⟨g, cap, cur, rfl, _⟩
  · omega
  · exact ⟨_, _, rfl⟩
theorem rowI_of {w w' : World} {v : Value} {l : List Int} {k g : Nat} (h : OwnL w w' v l) (hn : l.length ≤ 1000000) (hk : k < w.heap.size) (hg : g < w.heap.size) : ∃ A c, v = .slice A l.length c ∧ RowI w' k g A l.length l := by
  obtain ⟨A, c, rfl⟩ := own_form2 h.1
  refine ⟨A, c, rfl, ⟨rfl, hn⟩, fun h0 => ?_⟩
  obtain ⟨b, cap, e⟩ := own_some2 h.1 h0
  injection e with e1 _ e3
  subst e1 e3
  have hl := h.1.lt b rfl
  refine ⟨b, 0, rfl, hl.2, by omega, by omega, fun i x hx => ?_⟩
  have hj : (iCs l)[i]? = some (.int .i64 x) := by unfold iCs; rw [List.getElem?_map, hx]; rfl
  have hlt := (List.getElem?_eq_some_iff.1 hx).1
  rw [Nat.zero_add]
  exact (h.1.cellAt i (by omega)).trans hj
theorem end_keep {c : Ck} (h : ¬ (c.args = 0 ∧ c.pend ≠ 0)) : endP c = c := if_neg h
theorem end_turn {c : Ck} (h : c.args = 0 ∧ c.pend ≠ 0) : endP c = { c with d := fun x => c.d x || x == c.pend, pend := 0 } := if_pos h
set_option maxRecDepth 100000 in
set_option maxHeartbeats 4000000 in
theorem argument_any (c : Ck) (x : In) (k g : Nat) (w : World) (hc : CkOk c) (hn : 0 ≤ argN x ∧ argN x ≤ 8) (hwr : ∀ r ∈ wrOf x, -4096 ≤ r ∧ r ≤ 4096) (hwl : (wrOf x).length ≤ 1000000) (h : CkAt (.bool true) 60 w k g c) :
    Calls Tryz.prog 69 #[.pointer (some ⟨k, 0, none⟩), x.v] w fun e w' => e = .returned (.bool (argP c x).isSome) ∧ (∀ c', argP c x = some c' → CkAt (.bool true) 60 w' k g c') ∧ KeptK k g w w' := by
  have HC := Lib.hid hc
  have HWR := Lib.hid hwr
  have HWL := Lib.hid hwl
  have hne := h.ne
  have hkl := h.1.lt
  have hgl := h.2.lt
  obtain ⟨w0, hw0⟩ : ∃ X, Hid (X = w.alloc (.cells #[.int .i64 x.op, .int .i64 x.r, .int .i64 x.a, .int .i64 x.n, .string x.nm, .int .i64 x.ar] 34)) := ⟨_, rfl⟩
  obtain ⟨q, hq⟩ : ∃ q, Hid (q = w.heap.size) := ⟨_, rfl⟩
  have HX := Lib.hid (show BoxI w0 q x by rw [hw0.out, hq.out]; exact BoxI.new w x)
  have HK0 := Lib.hid (show KeptK k g w w0 by rw [hw0.out]; exact KeptK.of (bAlloc _ _))
  have H0 := Lib.hid (show CkAt (.bool true) 60 w0 k g c by rw [hw0.out]; exact h.next (bAlloc _ _))
  have hqk : q ≠ k := by rw [hq.out]; omega
  have hqg : q ≠ g := by rw [hq.out]; omega
  clear h hc hwr hwl
  have hn0 := hn.1
  have hn1 := hn.2
  have hs : IntKind.wrap .i64 (c.args - argN x) = c.args - argN x := wrapI (by have := HC.out.args; omega)
  go_enter Tryz.func69, Tryz.ntmps69
  go_upto_region 1 with fail
  rw [← hw0.out, ← hq.out]
  clear hw0
  obtain ⟨x0, x1, x2, x3, x4, x5⟩ := BoxI.cells HX.out
  obtain ⟨c0, c1, c2, c3, c4, cl⟩ := H0.out.cells
  have f2 := H0.out.1.frozen 2
  by_cases h10 : x.op = 10
  · have hN : argN x = x.n := by unfold argN; rw [if_pos h10]
    rw [hN] at hs
    have q1 : (x.op == 10) = true := by simpa using h10
    clear h10
    go_upto_region 2 with fail
    obtain ⟨D, hD⟩ : ∃ X, Hid (X = w0.drew) := ⟨_, rfl⟩
    have hd : Below w0.heap.size w0 D := by rw [hD.out]; exact bDrewN (Below.refl _ _) 1
    have HD := Lib.hid (H0.out.next hd)
    have HKD := Lib.hid (HK0.out.trans (KeptK.of hd))
    have hS0 : BoxI D q x := BlkNext HX.out hd
    refine wp_region_N (fun w' => BoxI w' q x) (fun _ => true) (by kernel_rfl) ?_
    rw [← hD.out]
    clear hD hd c0 c1 c2 c3 c4 cl f2 x0 x1 x2 x3 x4 x5
    obtain ⟨c0, c1, c2, c3, c4, cl⟩ := HD.out.cells
    have f2 := HD.out.1.frozen 2
    have HSX := Lib.hid hS0
    refine wpAnyN_take (i := 0) (v := ?v1) rfl (by kernel_rfl) (by kernel_rfl) (by kernel_rfl) (by kernel_rfl) (fun _ _ _ h => h) (Or.inl ⟨by rfl, ?hy1⟩) (by assumption) ?_
    case hy1 => intro w hSw; (try dsimp only at hSw); go_simp; try with_reducible rfl
    simp only [Act.put, List.getElem_toArray, List.getElem_cons_zero, List.setIfInBounds_toArray, List.set_cons_zero, List.set_cons_succ]
    refine wpAnyN_take (i := 1) (v := ?v2) rfl (by kernel_rfl) (by kernel_rfl) (by kernel_rfl) (by kernel_rfl) (fun _ _ _ h => h) (Or.inl ⟨by rfl, ?hy2⟩) (by assumption) ?_
    case hy2 => intro w hSw; (try dsimp only at hSw); go_simp; try with_reducible rfl
    simp only [Act.put, List.getElem_toArray, List.getElem_cons_zero, List.getElem_cons_succ, List.setIfInBounds_toArray, List.set_cons_zero, List.set_cons_succ]
    refine wpAnyN_take (i := 2) (v := ?v3) rfl (by kernel_rfl) (by kernel_rfl) (by kernel_rfl) (by kernel_rfl) (fun _ _ _ h => h) (Or.inl ⟨by rfl, ?hy3⟩) (by assumption) ?_
    case hy3 => intro w hSw; (try dsimp only at hSw); go_simp; try with_reducible rfl
    simp only [Act.put, List.getElem_toArray, List.getElem_cons_zero, List.getElem_cons_succ, List.setIfInBounds_toArray, List.set_cons_zero, List.set_cons_succ]
    refine wpAnyN_take (i := 4) (v := ?v4) rfl (by kernel_rfl) (by kernel_rfl) (by kernel_rfl) (by kernel_rfl) (fun _ _ _ h => h) (Or.inl ⟨by rfl, ?hy4⟩) (by assumption) ?_
    case hy4 => intro w hSw; (try dsimp only at hSw); go_simp; try with_reducible rfl
    simp only [Act.put, List.getElem_toArray, List.getElem_cons_zero, List.getElem_cons_succ, List.setIfInBounds_toArray, List.set_cons_zero, List.set_cons_succ]
    refine wpAnyN_take (i := 5) (v := ?v5) rfl (by kernel_rfl) (by kernel_rfl) (by kernel_rfl) (by kernel_rfl) (fun _ _ _ h => h) (Or.inl ⟨by rfl, ?hy5⟩) (by assumption) ?_
    case hy5 => intro w hSw; obtain ⟨x0, x1, x2, x3, x4, x5⟩ := BoxI.cells hSw; go_simp; try with_reducible rfl
    simp only [Act.put, List.getElem_toArray, List.getElem_cons_zero, List.getElem_cons_succ, List.setIfInBounds_toArray, List.set_cons_zero, List.set_cons_succ]
    refine wpAnyN_one (i := 3) (by kernel_rfl) rfl (fun K hK => ?_)
    simp only [List.getElem_toArray, List.getElem_cons_zero, List.getElem_cons_succ]
    go_simp
    refine hK _ _ (fun _ => hS0) ?_
    (try simp only [Act.put, List.setIfInBounds_toArray, List.set_cons_zero, List.set_cons_succ])
    refine wpAnyN_take (i := 6) (v := ?v6) rfl (by kernel_rfl) (by kernel_rfl) (by kernel_rfl) (by kernel_rfl) (fun _ _ _ h => h) (Or.inl ⟨by rfl, ?hy6⟩) (by assumption) ?_
    case hy6 => intro w hSw; (try dsimp only at hSw); go_simp; try with_reducible rfl
    simp only [Act.put, List.getElem_toArray, List.getElem_cons_zero, List.getElem_cons_succ, List.setIfInBounds_toArray, List.set_cons_zero, List.set_cons_succ]
    refine wpAnyN_take (i := 7) (v := ?v7) rfl (by kernel_rfl) (by kernel_rfl) (by kernel_rfl) (by kernel_rfl) (fun _ _ _ h => h) (Or.inl ⟨by rfl, ?hy7⟩) (by assumption) ?_
    case hy7 => intro w hSw; (try dsimp only at hSw); go_simp; try with_reducible rfl
    simp only [Act.put, List.getElem_toArray, List.getElem_cons_zero, List.getElem_cons_succ, List.setIfInBounds_toArray, List.set_cons_zero, List.set_cons_succ]
    refine wpAnyN_take (i := 8) (v := ?v8) rfl (by kernel_rfl) (by kernel_rfl) (by kernel_rfl) (by kernel_rfl) (fun _ _ _ h => h) (Or.inl ⟨by rfl, ?hy8⟩) (by assumption) ?_
    case hy8 => intro w hSw; (try dsimp only at hSw); go_simp; try with_reducible rfl
    simp only [Act.put, List.getElem_toArray, List.getElem_cons_zero, List.getElem_cons_succ, List.setIfInBounds_toArray, List.set_cons_zero, List.set_cons_succ]
    refine wpAnyN_one (i := 9) (by kernel_rfl) rfl (fun K hK => ?_)
    simp only [List.getElem_toArray, List.getElem_cons_zero, List.getElem_cons_succ]
    go_simp
    obtain ⟨w1, hw1⟩ : ∃ X, Hid (X = D.setCell ⟨k, 2, none⟩ (.int .i64 (c.args - x.n))) := ⟨_, rfl⟩
    rw [← hw1.out]
    have hS1 : BoxI w1 q x := by rw [hw1.out]; exact Blk.far HSX.out hqk _
    refine hK _ _ (fun _ => hS1) ?_
    (try simp only [Act.put, List.setIfInBounds_toArray, List.set_cons_zero, List.set_cons_succ])
    refine wpAnyN_done (by kernel_rfl) ?_ _
    have H1 := Lib.hid (show CkAt (.bool true) 60 w1 k g { c with args := c.args - argN x } by rw [hw1.out, hN]; exact ⟨by simpa using HD.out.1.set_ 2 (.int .i64 (c.args - x.n)), HD.out.2.set_ hne.symm _⟩)
    have HX1 := Lib.hid hS1
    have HK1 := Lib.hid (show KeptK k g w w1 by rw [hw1.out]; exact HKD.out.set (.inl rfl) _)
    clear hw1 c0 c1 c2 c3 c4 cl f2 hN hs hn hn0 hn1 hS0 hS1
    go_upto_region 4 with fail
    clear q1
    obtain ⟨a, ha2⟩ : ∃ a, Hid (a = c.args - argN x) := ⟨_, rfl⟩
    obtain ⟨ca, hca⟩ : ∃ ca : Ck, Hid (ca = { c with args := c.args - argN x }) := ⟨_, rfl⟩
    rw [← hca.out] at H1
    have HAR := Lib.hid (show argP c x = if a < 0 then none else (wrP ca (wrOf x)).map endP by unfold argP; rw [hca.out, ha2.out])
    have hcaa : ca.args = a := by rw [hca.out, ha2.out]
    have hcap : ca.pend = c.pend := by rw [hca.out]
    obtain ⟨c0, c1, c2, c3, c4, cl⟩ := H1.out.cells
    obtain ⟨x0, x1, x2, x3, x4, x5⟩ := BoxI.cells HX1.out
    rw [hcaa] at c2
    clear hcaa hcap
    by_cases h0 : a < 0
    · have q0 : decide (a < 0) = true := by simpa using h0
      have HE := Lib.hid (show argP c x = none by rw [HAR.out, if_pos h0])
      go_wp2_with fail
      go_ret
      exact ⟨ret_bool (by rw [HE.out]; rfl), fun c' h => (by rw [HE.out] at h; cases h), HK1.out⟩
    · have q0 : decide (a < 0) = false := by simpa using h0
      have HAR2 := Lib.hid (show argP c x = (wrP ca (wrOf x)).map endP by rw [HAR.out, if_neg h0])
      clear h0
      go_wp2_with fail
      refine (writes_any x w1).mono ?_
      rintro e w2 ⟨v, rfl, ho⟩
      obtain ⟨A, cp, rfl, hrow⟩ := rowI_of (k := k) (g := g) ho HWL.out H1.out.1.lt H1.out.2.lt
      have H2 := Lib.hid (H1.out.next ho.2)
      have HK2 := Lib.hid (HK1.out.trans (KeptK.of ho.2))
      have HROW := Lib.hid hrow
      clear ho hrow c0 c1 c2 c3 c4 cl x0 x1 x2 x3 x4 x5
      go_wp2_with fail
      refine (write_any ca k g A _ cp (wrOf x) w2 HROW.out HWR.out H2.out).mono ?_
      rintro e w3 ⟨rfl, hck, hkp⟩
      have HK3 := Lib.hid (HK2.out.trans hkp)
      cases hw : wrP ca (wrOf x) with
      | none =>
        have HE := Lib.hid (show argP c x = none by rw [HAR2.out, hw]; rfl)
        clear hw hck
        go_wp2_with fail
        go_ret
        exact ⟨ret_bool (by rw [HE.out]; rfl), fun c' h => (by rw [HE.out] at h; cases h), HK3.out⟩
      | some c' =>
        have HE := Lib.hid (show argP c x = some (endP c') by rw [HAR2.out, hw]; rfl)
        have H3 := Lib.hid (hck c' hw)
        clear hw hck
        obtain ⟨c0, c1, c2, c3, c4, cl⟩ := H3.out.cells
        by_cases hz : c'.args = 0
        · have q1 : (c'.args == 0) = true := by simpa using hz
          by_cases hp : c'.pend = 0
          · have q2 : (c'.pend != 0) = false := by simpa using hp
            have HF := Lib.hid (end_keep (c := c') (by simp [hp]))
            clear hz hp
            go_wp2_with fail
            go_ret
            exact ⟨ret_bool (by rw [HE.out]; rfl), fun c2 h => (by rw [HE.out, HF.out] at h; injection h with h; rw [← h]; exact H3.out), HK3.out⟩
          · have q2 : (c'.pend != 0) = true := by simpa using hp
            have HF := Lib.hid (end_turn (c := c') ⟨hz, hp⟩)
            clear hz hp
            go_upto_region 7 with fail
            obtain ⟨D, hD⟩ : ∃ X, Hid (X = w3.drew) := ⟨_, rfl⟩
            have hd : Below w3.heap.size w3 D := by rw [hD.out]; exact bDrewN (Below.refl _ _) 1
            have H4 := Lib.hid (H3.out.next hd)
            have HK4 := Lib.hid (HK3.out.trans (KeptK.of hd))
            have hS0 : Blk D k 60 #[.map (some g), .int .i64 c'.env, .int .i64 c'.args, .int .i64 c'.pend, .bool c'.called] := H4.out.1
            refine wp_region_N (fun w' => Blk w' k 60 #[.map (some g), .int .i64 c'.env, .int .i64 c'.args, .int .i64 c'.pend, .bool c'.called]) (fun _ => true) (by kernel_rfl) ?_
            rw [← hD.out]
            clear hD hd c0 c1 c2 c3 c4 cl q1 q2
            refine wpAnyN_take (i := 0) (v := ?v9) rfl (by kernel_rfl) (by kernel_rfl) (by kernel_rfl) (by kernel_rfl) (fun _ _ _ h => h) (Or.inl ⟨by rfl, ?hy9⟩) (by assumption) ?_
            case hy9 => intro w hSw; (try dsimp only at hSw); go_simp; try with_reducible rfl
            simp only [Act.put, List.getElem_toArray, List.getElem_cons_zero, List.setIfInBounds_toArray, List.set_cons_zero, List.set_cons_succ]
            refine wpAnyN_take (i := 1) (v := ?v10) rfl (by kernel_rfl) (by kernel_rfl) (by kernel_rfl) (by kernel_rfl) (fun _ _ _ h => h) (Or.inl ⟨by rfl, ?hy10⟩) (by assumption) ?_
            case hy10 => intro w hSw; (try dsimp only at hSw); go_simp; try with_reducible rfl
            simp only [Act.put, List.getElem_toArray, List.getElem_cons_zero, List.getElem_cons_succ, List.setIfInBounds_toArray, List.set_cons_zero, List.set_cons_succ]
            refine wpAnyN_take (i := 2) (v := ?v11) rfl (by kernel_rfl) (by kernel_rfl) (by kernel_rfl) (by kernel_rfl) (fun _ _ _ h => h) (Or.inl ⟨by rfl, ?hy11⟩) (by assumption) ?_
            case hy11 => intro w hSw; (try dsimp only at hSw); go_simp; try with_reducible rfl
            simp only [Act.put, List.getElem_toArray, List.getElem_cons_zero, List.getElem_cons_succ, List.setIfInBounds_toArray, List.set_cons_zero, List.set_cons_succ]
            refine wpAnyN_take (i := 3) (v := ?v12) rfl (by kernel_rfl) (by kernel_rfl) (by kernel_rfl) (by kernel_rfl) (fun _ _ _ h => h) (Or.inl ⟨by rfl, ?hy12⟩) (by assumption) ?_
            case hy12 => intro w hSw; have c0 := hSw.cell 0; have c3 := hSw.cell 3; have cl := hSw.lt; simp at c0 c3; go_simp; try with_reducible rfl
            simp only [Act.put, List.getElem_toArray, List.getElem_cons_zero, List.getElem_cons_succ, List.setIfInBounds_toArray, List.set_cons_zero, List.set_cons_succ]
            refine wpAnyN_take (i := 4) (v := ?v13) rfl (by kernel_rfl) (by kernel_rfl) (by kernel_rfl) (by kernel_rfl) (fun _ _ _ h => h) (Or.inl ⟨by rfl, ?hy13⟩) (by assumption) ?_
            case hy13 => intro w hSw; (try dsimp only at hSw); go_simp; try with_reducible rfl
            simp only [Act.put, List.getElem_toArray, List.getElem_cons_zero, List.getElem_cons_succ, List.setIfInBounds_toArray, List.set_cons_zero, List.set_cons_succ]
            refine wpAnyN_take (i := 5) (v := ?v14) rfl (by kernel_rfl) (by kernel_rfl) (by kernel_rfl) (by kernel_rfl) (fun _ _ _ h => h) (Or.inl ⟨by rfl, ?hy14⟩) (by assumption) ?_
            case hy14 => intro w hSw; (try dsimp only at hSw); go_simp; try with_reducible rfl
            simp only [Act.put, List.getElem_toArray, List.getElem_cons_zero, List.getElem_cons_succ, List.setIfInBounds_toArray, List.set_cons_zero, List.set_cons_succ]
            refine wpAnyN_take (i := 6) (v := ?v15) rfl (by kernel_rfl) (by kernel_rfl) (by kernel_rfl) (by kernel_rfl) (fun _ _ _ h => h) (Or.inl ⟨by rfl, ?hy15⟩) (by assumption) ?_
            case hy15 => intro w hSw; (try dsimp only at hSw); go_simp; try with_reducible rfl
            simp only [Act.put, List.getElem_toArray, List.getElem_cons_zero, List.getElem_cons_succ, List.setIfInBounds_toArray, List.set_cons_zero, List.set_cons_succ]
            refine wpAnyN_take (i := 7) (v := ?v16) rfl (by kernel_rfl) (by kernel_rfl) (by kernel_rfl) (by kernel_rfl) (fun _ _ _ h => h) (Or.inl ⟨by rfl, ?hy16⟩) (by assumption) ?_
            case hy16 => intro w hSw; have c0 := hSw.cell 0; have c3 := hSw.cell 3; have cl := hSw.lt; simp at c0 c3; go_simp; try with_reducible rfl
            simp only [Act.put, List.getElem_toArray, List.getElem_cons_zero, List.getElem_cons_succ, List.setIfInBounds_toArray, List.set_cons_zero, List.set_cons_succ]
            obtain ⟨w5, hrun, hs5, hg5, hz5⟩ := H4.out.2.update (mt := 58) under58 c'.pend
            refine wpAnyN_one (i := 8) (by kernel_rfl) rfl (fun K hK => ?_)
            simp only [List.getElem_toArray, List.getElem_cons_zero, List.getElem_cons_succ]
            go_simp
            have hS1 : Blk w5 k 60 #[.map (some g), .int .i64 c'.env, .int .i64 c'.args, .int .i64 c'.pend, .bool c'.called] := (H4.out.upd hs5 hg5).1
            refine hK _ _ (fun _ => hS1) ?_
            have H5 := Lib.hid (H4.out.upd hs5 hg5)
            have HK5 := Lib.hid (HK4.out.grown hg5 (fun i hi => by injection hi with hi; exact .inr (.inl hi.symm)))
            (try simp only [Act.put, List.setIfInBounds_toArray, List.set_cons_zero, List.set_cons_succ])
            refine wpAnyN_done (by kernel_rfl) ?_ _
            clear hS0 hS1 hrun hs5 hg5 hz5
            obtain ⟨c0, c1, c2, c3, c4, cl⟩ := H5.out.cells
            have f3 := H5.out.1.frozen 3
            go_wp2_with fail
            go_ret
            refine ⟨ret_bool (by rw [HE.out]; rfl), fun c2 h => ?_, HK5.out.set (.inl rfl) _⟩
            rw [HE.out, HF.out] at h
            injection h with h
            rw [← h]
            exact ⟨by simpa using H5.out.1.set_ 3 (.int .i64 0), H5.out.2.set_ hne.symm _⟩
        · have q1 : (c'.args == 0) = false := by simpa using hz
          have HF := Lib.hid (end_keep (c := c') (by simp [hz]))
          clear hz
          go_wp2_with fail
          go_ret
          exact ⟨ret_bool (by rw [HE.out]; rfl), fun c2 h => (by rw [HE.out, HF.out] at h; injection h with h; rw [← h]; exact H3.out), HK3.out⟩
  · have hN : argN x = 1 := by unfold argN; rw [if_neg h10]
    rw [hN] at hs
    have q1 : (x.op == 10) = false := by simpa using h10
    clear h10
    go_upto_region 4 with fail
    obtain ⟨w1, hw1⟩ : ∃ X, Hid (X = w0.setCell ⟨k, 2, none⟩ (.int .i64 (c.args - 1))) := ⟨_, rfl⟩
    rw [← hw1.out]
    have H1 := Lib.hid (show CkAt (.bool true) 60 w1 k g { c with args := c.args - argN x } by rw [hw1.out, hN]; exact ⟨by simpa using H0.out.1.set_ 2 (.int .i64 (c.args - 1)), H0.out.2.set_ hne.symm _⟩)
    have HX1 := Lib.hid (show BoxI w1 q x by rw [hw1.out]; exact Blk.far HX.out hqk _)
    have HK1 := Lib.hid (show KeptK k g w w1 by rw [hw1.out]; exact HK0.out.set (.inl rfl) _)
    clear hw1 x0 x1 x2 x3 x4 x5 c0 c1 c2 c3 c4 cl f2 hN hs hn hn0 hn1
    obtain ⟨a, ha2⟩ : ∃ a, Hid (a = c.args - argN x) := ⟨_, rfl⟩
    obtain ⟨ca, hca⟩ : ∃ ca : Ck, Hid (ca = { c with args := c.args - argN x }) := ⟨_, rfl⟩
    rw [← hca.out] at H1
    have HAR := Lib.hid (show argP c x = if a < 0 then none else (wrP ca (wrOf x)).map endP by unfold argP; rw [hca.out, ha2.out])
    have hcaa : ca.args = a := by rw [hca.out, ha2.out]
    have hcap : ca.pend = c.pend := by rw [hca.out]
    obtain ⟨c0, c1, c2, c3, c4, cl⟩ := H1.out.cells
    obtain ⟨x0, x1, x2, x3, x4, x5⟩ := BoxI.cells HX1.out
    rw [hcaa] at c2
    clear hcaa hcap
    by_cases h0 : a < 0
    · have q0 : decide (a < 0) = true := by simpa using h0
      have HE := Lib.hid (show argP c x = none by rw [HAR.out, if_pos h0])
      go_wp2_with fail
      go_ret
      exact ⟨ret_bool (by rw [HE.out]; rfl), fun c' h => (by rw [HE.out] at h; cases h), HK1.out⟩
    · have q0 : decide (a < 0) = false := by simpa using h0
      have HAR2 := Lib.hid (show argP c x = (wrP ca (wrOf x)).map endP by rw [HAR.out, if_neg h0])
      clear h0
      go_wp2_with fail
      refine (writes_any x w1).mono ?_
      rintro e w2 ⟨v, rfl, ho⟩
      obtain ⟨A, cp, rfl, hrow⟩ := rowI_of (k := k) (g := g) ho HWL.out H1.out.1.lt H1.out.2.lt
      have H2 := Lib.hid (H1.out.next ho.2)
      have HK2 := Lib.hid (HK1.out.trans (KeptK.of ho.2))
      have HROW := Lib.hid hrow
      clear ho hrow c0 c1 c2 c3 c4 cl x0 x1 x2 x3 x4 x5
      go_wp2_with fail
      refine (write_any ca k g A _ cp (wrOf x) w2 HROW.out HWR.out H2.out).mono ?_
      rintro e w3 ⟨rfl, hck, hkp⟩
      have HK3 := Lib.hid (HK2.out.trans hkp)
      cases hw : wrP ca (wrOf x) with
      | none =>
        have HE := Lib.hid (show argP c x = none by rw [HAR2.out, hw]; rfl)
        clear hw hck
        go_wp2_with fail
        go_ret
        exact ⟨ret_bool (by rw [HE.out]; rfl), fun c' h => (by rw [HE.out] at h; cases h), HK3.out⟩
      | some c' =>
        have HE := Lib.hid (show argP c x = some (endP c') by rw [HAR2.out, hw]; rfl)
        have H3 := Lib.hid (hck c' hw)
        clear hw hck
        obtain ⟨c0, c1, c2, c3, c4, cl⟩ := H3.out.cells
        by_cases hz : c'.args = 0
        · have q1 : (c'.args == 0) = true := by simpa using hz
          by_cases hp : c'.pend = 0
          · have q2 : (c'.pend != 0) = false := by simpa using hp
            have HF := Lib.hid (end_keep (c := c') (by simp [hp]))
            clear hz hp
            go_wp2_with fail
            go_ret
            exact ⟨ret_bool (by rw [HE.out]; rfl), fun c2 h => (by rw [HE.out, HF.out] at h; injection h with h; rw [← h]; exact H3.out), HK3.out⟩
          · have q2 : (c'.pend != 0) = true := by simpa using hp
            have HF := Lib.hid (end_turn (c := c') ⟨hz, hp⟩)
            clear hz hp
            go_upto_region 7 with fail
            obtain ⟨D, hD⟩ : ∃ X, Hid (X = w3.drew) := ⟨_, rfl⟩
            have hd : Below w3.heap.size w3 D := by rw [hD.out]; exact bDrewN (Below.refl _ _) 1
            have H4 := Lib.hid (H3.out.next hd)
            have HK4 := Lib.hid (HK3.out.trans (KeptK.of hd))
            have hS0 : Blk D k 60 #[.map (some g), .int .i64 c'.env, .int .i64 c'.args, .int .i64 c'.pend, .bool c'.called] := H4.out.1
            refine wp_region_N (fun w' => Blk w' k 60 #[.map (some g), .int .i64 c'.env, .int .i64 c'.args, .int .i64 c'.pend, .bool c'.called]) (fun _ => true) (by kernel_rfl) ?_
            rw [← hD.out]
            clear hD hd c0 c1 c2 c3 c4 cl q1 q2
            refine wpAnyN_take (i := 0) (v := ?v17) rfl (by kernel_rfl) (by kernel_rfl) (by kernel_rfl) (by kernel_rfl) (fun _ _ _ h => h) (Or.inl ⟨by rfl, ?hy17⟩) (by assumption) ?_
            case hy17 => intro w hSw; (try dsimp only at hSw); go_simp; try with_reducible rfl
            simp only [Act.put, List.getElem_toArray, List.getElem_cons_zero, List.setIfInBounds_toArray, List.set_cons_zero, List.set_cons_succ]
            refine wpAnyN_take (i := 1) (v := ?v18) rfl (by kernel_rfl) (by kernel_rfl) (by kernel_rfl) (by kernel_rfl) (fun _ _ _ h => h) (Or.inl ⟨by rfl, ?hy18⟩) (by assumption) ?_
            case hy18 => intro w hSw; (try dsimp only at hSw); go_simp; try with_reducible rfl
            simp only [Act.put, List.getElem_toArray, List.getElem_cons_zero, List.getElem_cons_succ, List.setIfInBounds_toArray, List.set_cons_zero, List.set_cons_succ]
            refine wpAnyN_take (i := 2) (v := ?v19) rfl (by kernel_rfl) (by kernel_rfl) (by kernel_rfl) (by kernel_rfl) (fun _ _ _ h => h) (Or.inl ⟨by rfl, ?hy19⟩) (by assumption) ?_
            case hy19 => intro w hSw; (try dsimp only at hSw); go_simp; try with_reducible rfl
            simp only [Act.put, List.getElem_toArray, List.getElem_cons_zero, List.getElem_cons_succ, List.setIfInBounds_toArray, List.set_cons_zero, List.set_cons_succ]
            refine wpAnyN_take (i := 3) (v := ?v20) rfl (by kernel_rfl) (by kernel_rfl) (by kernel_rfl) (by kernel_rfl) (fun _ _ _ h => h) (Or.inl ⟨by rfl, ?hy20⟩) (by assumption) ?_
            case hy20 => intro w hSw; have c0 := hSw.cell 0; have c3 := hSw.cell 3; have cl := hSw.lt; simp at c0 c3; go_simp; try with_reducible rfl
            simp only [Act.put, List.getElem_toArray, List.getElem_cons_zero, List.getElem_cons_succ, List.setIfInBounds_toArray, List.set_cons_zero, List.set_cons_succ]
            refine wpAnyN_take (i := 4) (v := ?v21) rfl (by kernel_rfl) (by kernel_rfl) (by kernel_rfl) (by kernel_rfl) (fun _ _ _ h => h) (Or.inl ⟨by rfl, ?hy21⟩) (by assumption) ?_
            case hy21 => intro w hSw; (try dsimp only at hSw); go_simp; try with_reducible rfl
            simp only [Act.put, List.getElem_toArray, List.getElem_cons_zero, List.getElem_cons_succ, List.setIfInBounds_toArray, List.set_cons_zero, List.set_cons_succ]
            refine wpAnyN_take (i := 5) (v := ?v22) rfl (by kernel_rfl) (by kernel_rfl) (by kernel_rfl) (by kernel_rfl) (fun _ _ _ h => h) (Or.inl ⟨by rfl, ?hy22⟩) (by assumption) ?_
            case hy22 => intro w hSw; (try dsimp only at hSw); go_simp; try with_reducible rfl
            simp only [Act.put, List.getElem_toArray, List.getElem_cons_zero, List.getElem_cons_succ, List.setIfInBounds_toArray, List.set_cons_zero, List.set_cons_succ]
            refine wpAnyN_take (i := 6) (v := ?v23) rfl (by kernel_rfl) (by kernel_rfl) (by kernel_rfl) (by kernel_rfl) (fun _ _ _ h => h) (Or.inl ⟨by rfl, ?hy23⟩) (by assumption) ?_
            case hy23 => intro w hSw; (try dsimp only at hSw); go_simp; try with_reducible rfl
            simp only [Act.put, List.getElem_toArray, List.getElem_cons_zero, List.getElem_cons_succ, List.setIfInBounds_toArray, List.set_cons_zero, List.set_cons_succ]
            refine wpAnyN_take (i := 7) (v := ?v24) rfl (by kernel_rfl) (by kernel_rfl) (by kernel_rfl) (by kernel_rfl) (fun _ _ _ h => h) (Or.inl ⟨by rfl, ?hy24⟩) (by assumption) ?_
            case hy24 => intro w hSw; have c0 := hSw.cell 0; have c3 := hSw.cell 3; have cl := hSw.lt; simp at c0 c3; go_simp; try with_reducible rfl
            simp only [Act.put, List.getElem_toArray, List.getElem_cons_zero, List.getElem_cons_succ, List.setIfInBounds_toArray, List.set_cons_zero, List.set_cons_succ]
            obtain ⟨w5, hrun, hs5, hg5, hz5⟩ := H4.out.2.update (mt := 58) under58 c'.pend
            refine wpAnyN_one (i := 8) (by kernel_rfl) rfl (fun K hK => ?_)
            simp only [List.getElem_toArray, List.getElem_cons_zero, List.getElem_cons_succ]
            go_simp
            have hS1 : Blk w5 k 60 #[.map (some g), .int .i64 c'.env, .int .i64 c'.args, .int .i64 c'.pend, .bool c'.called] := (H4.out.upd hs5 hg5).1
            refine hK _ _ (fun _ => hS1) ?_
            have H5 := Lib.hid (H4.out.upd hs5 hg5)
            have HK5 := Lib.hid (HK4.out.grown hg5 (fun i hi => by injection hi with hi; exact .inr (.inl hi.symm)))
            (try simp only [Act.put, List.setIfInBounds_toArray, List.set_cons_zero, List.set_cons_succ])
            refine wpAnyN_done (by kernel_rfl) ?_ _
            clear hS0 hS1 hrun hs5 hg5 hz5
            obtain ⟨c0, c1, c2, c3, c4, cl⟩ := H5.out.cells
            have f3 := H5.out.1.frozen 3
            go_wp2_with fail
            go_ret
            refine ⟨ret_bool (by rw [HE.out]; rfl), fun c2 h => ?_, HK5.out.set (.inl rfl) _⟩
            rw [HE.out, HF.out] at h
            injection h with h
            rw [← h]
            exact ⟨by simpa using H5.out.1.set_ 3 (.int .i64 0), H5.out.2.set_ hne.symm _⟩
        · have q1 : (c'.args == 0) = false := by simpa using hz
          have HF := Lib.hid (end_keep (c := c') (by simp [hz]))
          clear hz
          go_wp2_with fail
          go_ret
          exact ⟨ret_bool (by rw [HE.out]; rfl), fun c2 h => (by rw [HE.out, HF.out] at h; injection h with h; rw [← h]; exact H3.out), HK3.out⟩
end
section
open Go.RowKit

set_option maxRecDepth 100000 in
set_option maxHeartbeats 4000000 in
theorem step_any (c : Ck) (x : In) (fi la : Bool) (k g : Nat) (w : World) (hc : CkOk c) (hx : fo x = true) (hrl : (rdOf x).length ≤ 1000000) (hwl : (wrOf x).length ≤ 1000000) (hwr : ∀ r ∈ wrOf x, -4096 ≤ r ∧ r ≤ 4096) (han : isArg x.op = true → 0 ≤ argN x ∧ argN x ≤ 8) (h : CkAt (.bool true) 60 w k g c) :
    Calls Tryz.prog 34 #[.pointer (some ⟨k, 0, none⟩), x.v, .bool fi, .bool la] w fun e w' => e = .returned (.bool (stepP c x fi la).isSome) ∧ (∀ c', stepP c x fi la = some c' → CkAt (.bool true) 60 w' k g c') ∧ KeptK k g w w' := by
  have HC := Lib.hid hc
  have HFO := Lib.hid hx
  have HRL := Lib.hid hrl
  have HWL := Lib.hid hwl
  have HWR := Lib.hid hwr
  have HAN := Lib.hid han
  have hne := h.ne
  have hkl := h.1.lt
  have hgl := h.2.lt
  obtain ⟨w0, hw0⟩ : ∃ X, Hid (X = w.alloc (.cells #[.int .i64 x.op, .int .i64 x.r, .int .i64 x.a, .int .i64 x.n, .string x.nm, .int .i64 x.ar] 34)) := ⟨_, rfl⟩
  obtain ⟨q, hq⟩ : ∃ q, Hid (q = w.heap.size) := ⟨_, rfl⟩
  have HX := Lib.hid (show BoxI w0 q x by rw [hw0.out, hq.out]; exact BoxI.new w x)
  have HK0 := Lib.hid (show KeptK k g w w0 by rw [hw0.out]; exact KeptK.of (bAlloc _ _))
  have H0 := Lib.hid (show CkAt (.bool true) 60 w0 k g c by rw [hw0.out]; exact h.next (bAlloc _ _))
  have hqk : q ≠ k := by rw [hq.out]; omega
  have hqg : q ≠ g := by rw [hq.out]; omega
  clear h hc hx hrl hwl hwr han
  go_enter Tryz.func34, Tryz.ntmps34
  go_upto_region 1 with fail
  rw [← hw0.out, ← hq.out]
  clear hw0
  obtain ⟨x0, x1, x2, x3, x4, x5⟩ := BoxI.cells HX.out
  go_cut [9] from 9 to 26 (fun s9 wx => s9 = .bool (isEnd x.op) ∧ w0 = wx)
  case first =>
    go_wp2_with fail
    all_goals go_meet
    all_goals refine ⟨congrArg Value.bool ?_, rfl⟩
    all_goals (simp [isEnd, Bool.or_assoc, *]; done)
  case rest =>
    obtain ⟨rfl, rfl⟩ := hcut
    go_upto_region 2 with fail
    go_cut [10] from 10 to 34 (fun s10 wx => s10 = .bool (isArg x.op) ∧ w0 = wx)
    case first =>
      go_wp2_with fail
      all_goals go_meet
      all_goals refine ⟨congrArg Value.bool ?_, rfl⟩
      all_goals first | (simp [isArg, *]; done) | (simp [isArg, *]; omega)
    case rest =>
      obtain ⟨rfl, rfl⟩ := hcut
      go_upto_region 3 with fail
      obtain ⟨c0, c1, c2, c3, c4, cl⟩ := H0.out.cells
      obtain ⟨ar, har⟩ : ∃ b, Hid (b = isArg x.op) := ⟨_, rfl⟩
      obtain ⟨en, hen⟩ : ∃ b, Hid (b = isEnd x.op) := ⟨_, rfl⟩
      rw [← har.out, ← hen.out]
      go_cut [46] from 35 to 46 (fun s46 wx => s46 = .bool ((ar != decide (0 < c.args)) || (en != la)) ∧ w0 = wx)
      case first =>
        clear har hen
        by_cases h1 : 0 < c.args
        · have q1 : decide (0 < c.args) = true := by simpa using h1
          cases ar <;> cases en <;> cases la <;> (go_wp2_with fail) <;> go_meet <;> exact ⟨congrArg Value.bool (by rw [q1]; rfl), rfl⟩
        · have q1 : decide (0 < c.args) = false := by simpa using h1
          cases ar <;> cases en <;> cases la <;> (go_wp2_with fail) <;> go_meet <;> exact ⟨congrArg Value.bool (by rw [q1]; rfl), rfl⟩
      case rest =>
        obtain ⟨rfl, rfl⟩ := hcut
        cases h1 : ((ar != decide (0 < c.args)) || (en != la))
        · have HT := Lib.hid (show ¬ ((isArg x.op != decide (0 < c.args)) = true ∨ (isEnd x.op != la) = true) by rw [← har.out, ← hen.out, ← Bool.or_eq_true, h1]; simp)
          clear h1
          go_wp2_with fail
          refine (reads_any x w0).mono ?_
          rintro e w2 ⟨v, rfl, ho⟩
          obtain ⟨A, cp, rfl, hrow⟩ := rowI_of (k := k) (g := g) ho HRL.out H0.out.1.lt H0.out.2.lt
          have H2 := Lib.hid (H0.out.next ho.2)
          have HK2 := Lib.hid (HK0.out.trans (KeptK.of ho.2))
          have HX2 := Lib.hid (BlkNext HX.out ho.2)
          have HROW := Lib.hid hrow
          have hlen := hrow.1.2
          have HLK := Lib.hid (show ∀ y, (Instr.lookup 58 (.map (some g)) (.int .i64 y) false).run Tryz.prog w2 = .ok (.bool (c.d y)) w2 from fun y => H2.out.2.lookB y)
          obtain ⟨n, hn⟩ : ∃ n, Hid (n = (rdOf x).length) := ⟨_, rfl⟩
          rw [← hn.out] at HROW hlen ⊢
          clear ho hrow c0 c1 c2 c3 c4 cl x0 x1 x2 x3 x4 x5
          go_wp2_with fail
          go_loopw [50] (fun i wr => ∃ j : Nat, i = .int .i64 j ∧ j ≤ n ∧ w2 = wr ∧ Hid (((rdOf x).take j).all c.d = true)) (fun i _ => n - (intOf i).toNat)
          case atStart => exact ⟨0, rfl, Nat.zero_le _, rfl, Lib.hid rfl⟩
          case round =>
            obtain ⟨j, rfl, hj, rfl, HJ⟩ := hrel
            by_cases hlt : j < n
            · obtain ⟨b, off, rfl, hbl, hbk, hbg, hcell⟩ := HROW.out.2 (by omega)
              obtain ⟨y, hy⟩ : ∃ y, (rdOf x)[j]? = some y := ⟨_, List.getElem?_eq_getElem (by rw [HROW.out.1.1]; exact hlt)⟩
              have e1 := hcell j y hy
              have HY := Lib.hid hy
              have hlk := HLK.out y
              have hlj : decide ((j : Int) < (n : Int)) = true := by simp; omega
              obtain ⟨c0, c1, c2, c3, c4, cl⟩ := H2.out.cells
              clear hcell hy hbk hbg
              cases hd : c.d y
              · have HE := Lib.hid (show stepP c x fi la = none by
                  unfold stepP
                  rw [if_neg HT.out, if_pos]
                  cases h : (rdOf x).all c.d
                  · rfl
                  · rw [List.all_eq_true] at h
                    rw [h y (List.mem_of_getElem? HY.out)] at hd
                    cases hd)
                rw [hd] at hlk
                clear hd
                go_wp2_with fail
                go_ret
                exact ⟨ret_bool (by rw [HE.out]; rfl), fun c' h => (by rw [HE.out] at h; cases h), HK2.out⟩
              · have HS := Lib.hid (show ((rdOf x).take (j + 1)).all c.d = true by
                  rw [List.take_add_one, HY.out, Option.toList_some, List.all_append, HJ.out]
                  simp [hd])
                rw [hd] at hlk
                clear hd
                go_wp2_with fail
                exact ⟨⟨j + 1, by go_num, hlt, by trivial, HS⟩, by simp [intOf]; omega⟩
            · have hlj : decide ((j : Int) < (n : Int)) = false := by simp; omega
              have HALL := Lib.hid (show (rdOf x).all c.d = true by
                have h := HJ.out
                rwa [List.take_of_length_le (by rw [HROW.out.1.1]; omega)] at h)
              clear HJ HROW HLK
              go_upto_region 11 with fail
              cases ar
              · have HS := Lib.hid (show stepP c x fi la = (if x.op = 5 then some { c with args := x.ar }
                    else if x.op = 15 then (if exP c x.r = true then some { c with args := x.ar, pend := x.r } else none)
                    else if x.op = 16 then (if fi = true then some { c with env := x.n } else none)
                    else if x.op = 17 then (if c.env < x.n then none else some (rzP c x.n))
                    else if x.op = 18 then (if c.env < 0 then none else some (rzP c (-1)))
                    else if x.op = 19 then (if 0 ≤ c.env then some { c with d := fun r => c.d r && !decide (0 < r), called := true } else none)
                    else if x.op = 20 ∨ x.op = 21 then (if c.env < 0 then some c else none)
                    else if x.op = 22 then (if c.called = true then none else wrP c [x.r])
                    else wrP c (wrOf x)) by unfold stepP; rw [if_neg HT.out, if_neg (by rw [HALL.out]; simp), if_neg (by rw [← har.out]; simp)])
                obtain ⟨x0, x1, x2, x3, x4, x5⟩ := BoxI.cells HX2.out
                obtain ⟨c0, c1, c2, c3, c4, cl⟩ := H2.out.cells
                by_cases h5 : x.op = 5
                · have q5 : (x.op == 5) = true := by simpa using h5
                  have HE := Lib.hid (show stepP c x fi la = some { c with args := x.ar } by rw [HS.out, if_pos h5])
                  have f2 := H2.out.1.frozen 2
                  clear h5
                  go_wp2_with fail
                  go_ret
                  refine ⟨ret_bool (by rw [HE.out]; rfl), fun c' h => ?_, HK2.out.set (.inl rfl) _⟩
                  rw [HE.out] at h
                  injection h with h
                  rw [← h]
                  exact ⟨by simpa using H2.out.1.set_ 2 (.int .i64 x.ar), H2.out.2.set_ hne.symm _⟩
                · have q5 : (x.op == 5) = false := by simpa using h5
                  by_cases h16 : x.op = 16
                  · have q15 : (x.op == 15) = false := by rw [h16]; rfl
                    have q16 : (x.op == 16) = true := by simpa using h16
                    have HE := Lib.hid (show stepP c x fi la = if fi = true then some { c with env := x.n } else none by rw [HS.out, if_neg h5, if_neg (by omega), if_pos h16])
                    have f1 := H2.out.1.frozen 1
                    clear h5 h16
                    go_wp2_with fail
                    go_ret
                    refine ⟨ret_bool (by rw [HE.out]; cases fi <;> rfl), fun c' h => ?_, HK2.out.set (.inl rfl) _⟩
                    rw [HE.out] at h
                    split at h
                    · injection h with h
                      rw [← h]
                      exact ⟨by simpa using H2.out.1.set_ 1 (.int .i64 x.n), H2.out.2.set_ hne.symm _⟩
                    · cases h
                  · have q16 : (x.op == 16) = false := by simpa using h16
                    by_cases h17 : x.op = 17
                    · have q15 : (x.op == 15) = false := by rw [h17]; rfl
                      have q17 : (x.op == 17) = true := by simpa using h17
                      have HE := Lib.hid (show stepP c x fi la = if c.env < x.n then none else some (rzP c x.n) by rw [HS.out, if_neg h5, if_neg (by omega), if_neg h16, if_pos h17])
                      clear h5 h16 h17
                      go_upto_region 24 with fail
                      obtain ⟨D, hD⟩ : ∃ X, Hid (X = w2.drew) := ⟨_, rfl⟩
                      have hd : Below w2.heap.size w2 D := by rw [hD.out]; exact bDrewN (Below.refl _ _) 1
                      refine wp_region_N (fun w' => Below w2.heap.size w2 w') (fun _ => true) (by kernel_rfl) ?_
                      rw [← hD.out]
                      have HD := Lib.hid hd
                      have H3 := Lib.hid (H2.out.next hd)
                      have HK3 := Lib.hid (HK2.out.trans (KeptK.of hd))
                      have HX3 := Lib.hid (BlkNext HX2.out hd)
                      clear hD x0 x1 x2 x3 x4 x5 c0 c1 c2 c3 c4 cl
                      refine wpAnyN_take (i := 0) (v := ?v1) rfl (by kernel_rfl) (by kernel_rfl) (by kernel_rfl) (by kernel_rfl) (fun _ _ _ h => h) (Or.inl ⟨by rfl, ?hy1⟩) (by assumption) ?_
                      case hy1 => intro w hSw; (try dsimp only at hSw); go_simp; try with_reducible rfl
                      simp only [Act.put, List.getElem_toArray, List.getElem_cons_zero, List.setIfInBounds_toArray, List.set_cons_zero, List.set_cons_succ]
                      refine wpAnyN_take (i := 1) (v := ?v2) rfl (by kernel_rfl) (by kernel_rfl) (by kernel_rfl) (by kernel_rfl) (fun _ _ _ h => h) (Or.inl ⟨by rfl, ?hy2⟩) (by assumption) ?_
                      case hy2 => intro w hSw; (try dsimp only at hSw); go_simp; try with_reducible rfl
                      simp only [Act.put, List.getElem_toArray, List.getElem_cons_zero, List.getElem_cons_succ, List.setIfInBounds_toArray, List.set_cons_zero, List.set_cons_succ]
                      refine wpAnyN_take (i := 2) (v := ?v3) rfl (by kernel_rfl) (by kernel_rfl) (by kernel_rfl) (by kernel_rfl) (fun _ _ _ h => h) (Or.inl ⟨by rfl, ?hy3⟩) (by assumption) ?_
                      case hy3 => intro w hSw; (try dsimp only at hSw); go_simp; try with_reducible rfl
                      simp only [Act.put, List.getElem_toArray, List.getElem_cons_zero, List.getElem_cons_succ, List.setIfInBounds_toArray, List.set_cons_zero, List.set_cons_succ]
                      refine wpAnyN_take (i := 3) (v := ?v4) rfl (by kernel_rfl) (by kernel_rfl) (by kernel_rfl) (by kernel_rfl) (fun _ _ _ h => h) (Or.inl ⟨by rfl, ?hy4⟩) (by assumption) ?_
                      case hy4 => intro w hSw; obtain ⟨c0, c1, c2, c3, c4, cl⟩ := (H2.out.next hSw).cells; obtain ⟨x0, x1, x2, x3, x4, x5⟩ := BoxI.cells (BlkNext HX2.out hSw); go_simp; try with_reducible rfl
                      simp only [Act.put, List.getElem_toArray, List.getElem_cons_zero, List.getElem_cons_succ, List.setIfInBounds_toArray, List.set_cons_zero, List.set_cons_succ]
                      refine wpAnyN_take (i := 4) (v := ?v5) rfl (by kernel_rfl) (by kernel_rfl) (by kernel_rfl) (by kernel_rfl) (fun _ _ _ h => h) (Or.inl ⟨by rfl, ?hy5⟩) (by assumption) ?_
                      case hy5 => intro w hSw; (try dsimp only at hSw); go_simp; try with_reducible rfl
                      simp only [Act.put, List.getElem_toArray, List.getElem_cons_zero, List.getElem_cons_succ, List.setIfInBounds_toArray, List.set_cons_zero, List.set_cons_succ]
                      refine wpAnyN_take (i := 5) (v := ?v6) rfl (by kernel_rfl) (by kernel_rfl) (by kernel_rfl) (by kernel_rfl) (fun _ _ _ h => h) (Or.inl ⟨by rfl, ?hy6⟩) (by assumption) ?_
                      case hy6 => intro w hSw; obtain ⟨c0, c1, c2, c3, c4, cl⟩ := (H2.out.next hSw).cells; obtain ⟨x0, x1, x2, x3, x4, x5⟩ := BoxI.cells (BlkNext HX2.out hSw); go_simp; try with_reducible rfl
                      simp only [Act.put, List.getElem_toArray, List.getElem_cons_zero, List.getElem_cons_succ, List.setIfInBounds_toArray, List.set_cons_zero, List.set_cons_succ]
                      refine wpAnyN_take (i := 6) (v := ?v7) rfl (by kernel_rfl) (by kernel_rfl) (by kernel_rfl) (by kernel_rfl) (fun _ _ _ h => h) (Or.inl ⟨by rfl, ?hy7⟩) (by assumption) ?_
                      case hy7 => intro w hSw; (try dsimp only at hSw); go_simp; try with_reducible rfl
                      simp only [Act.put, List.getElem_toArray, List.getElem_cons_zero, List.getElem_cons_succ, List.setIfInBounds_toArray, List.set_cons_zero, List.set_cons_succ]
                      refine wpAnyN_done (by kernel_rfl) ?_ _
                      clear hd
                      obtain ⟨tb, htb⟩ : ∃ t, Hid (t = decide (c.env < x.n)) := ⟨_, rfl⟩
                      rw [← htb.out]
                      have HX5 := Lib.hid (BoxI.cells HX3.out)
                      cases tb
                      rotate_left
                      · have h0 : c.env < x.n := by simpa using htb.out.symm
                        have HE2 := Lib.hid (show stepP c x fi la = none by rw [HE.out, if_pos h0])
                        clear h0
                        go_wp2_with fail
                        go_ret
                        exact ⟨ret_bool (by rw [HE2.out]; rfl), fun c' h => (by rw [HE2.out] at h; cases h), HK3.out⟩
                      · have h0 : ¬ c.env < x.n := by simpa using htb.out.symm
                        have HE2 := Lib.hid (show stepP c x fi la = some (rzP c x.n) by rw [HE.out, if_neg h0])
                        clear h0
                        obtain ⟨x0, x1, x2, x3, x4, x5⟩ := BoxI.cells HX3.out
                        go_wp2_with fail
                        refine (resize_any c k g x.n D (fun r hr => (HC.out.d r hr).2) H3.out).mono ?_
                        rintro e w3 ⟨rfl, h3, hk3⟩
                        have H4 := Lib.hid h3
                        have HK4 := Lib.hid (HK3.out.trans hk3)
                        clear h3 hk3 x0 x1 x2 x3 x4 x5
                        go_wp2_with fail
                        go_ret
                        exact ⟨ret_bool (by rw [HE2.out]; rfl), fun c' h => (by rw [HE2.out] at h; injection h with h; rw [← h]; exact H4.out), HK4.out⟩
                    · have q17 : (x.op == 17) = false := by simpa using h17
                      by_cases h18 : x.op = 18
                      · have q15 : (x.op == 15) = false := by rw [h18]; rfl
                        have q18 : (x.op == 18) = true := by simpa using h18
                        have HE := Lib.hid (show stepP c x fi la = if c.env < 0 then none else some (rzP c (-1)) by rw [HS.out, if_neg h5, if_neg (by omega), if_neg h16, if_neg h17, if_pos h18])
                        clear h5 h16 h17 h18
                        by_cases h0 : c.env < 0
                        · have q0 : decide (c.env < 0) = true := by simpa using h0
                          have HE2 := Lib.hid (show stepP c x fi la = none by rw [HE.out, if_pos h0])
                          clear h0
                          go_wp2_with fail
                          go_ret
                          exact ⟨ret_bool (by rw [HE2.out]; rfl), fun c' h => (by rw [HE2.out] at h; cases h), HK2.out⟩
                        · have q0 : decide (c.env < 0) = false := by simpa using h0
                          have HE2 := Lib.hid (show stepP c x fi la = some (rzP c (-1)) by rw [HE.out, if_neg h0])
                          clear h0
                          go_wp2_with fail
                          refine (resize_any c k g (-1) w2 (fun r hr => (HC.out.d r hr).2) H2.out).mono ?_
                          rintro e w3 ⟨rfl, h3, hk3⟩
                          have H3 := Lib.hid h3
                          have HK3 := Lib.hid (HK2.out.trans hk3)
                          clear h3 hk3 x0 x1 x2 x3 x4 x5 c0 c1 c2 c3 c4 cl
                          go_wp2_with fail
                          go_ret
                          exact ⟨ret_bool (by rw [HE2.out]; rfl), fun c' h => (by rw [HE2.out] at h; injection h with h; rw [← h]; exact H3.out), HK3.out⟩
                      · have q18 : (x.op == 18) = false := by simpa using h18
                        by_cases h20 : x.op = 20 ∨ x.op = 21
                        · have HE := Lib.hid (show stepP c x fi la = if c.env < 0 then some c else none by rw [HS.out, if_neg h5, if_neg (by omega), if_neg h16, if_neg h17, if_neg h18, if_neg (by omega), if_pos h20])
                          have q15 : (x.op == 15) = false := by simp; omega
                          have q19 : (x.op == 19) = false := by simp; omega
                          have HF := Lib.hid (show (stepP c x fi la).isSome = decide (c.env < 0) by rw [HE.out]; split <;> simp [*])
                          rcases h20 with h | h
                          · have q20 : (x.op == 20) = true := by simpa using h
                            clear h5 h16 h17 h18 h
                            go_wp2_with fail
                            go_ret
                            refine ⟨ret_bool HF.out.symm, fun c' h => ?_, HK2.out⟩
                            rw [HE.out] at h
                            split at h
                            · injection h with h; rw [← h]; exact H2.out
                            · cases h
                          · have q20 : (x.op == 20) = false := by rw [h]; rfl
                            have q21 : (x.op == 21) = true := by simpa using h
                            clear h5 h16 h17 h18 h
                            go_wp2_with fail
                            go_ret
                            refine ⟨ret_bool HF.out.symm, fun c' h => ?_, HK2.out⟩
                            rw [HE.out] at h
                            split at h
                            · injection h with h; rw [← h]; exact H2.out
                            · cases h
                        · have q20 : (x.op == 20) = false := by simp; omega
                          have q21 : (x.op == 21) = false := by simp; omega
                          by_cases h15 : x.op = 15
                          · have q15 : (x.op == 15) = true := by simpa using h15
                            have HE := Lib.hid (show stepP c x fi la = if exP c x.r = true then some { c with args := x.ar, pend := x.r } else none by rw [HS.out, if_neg h5, if_pos h15])
                            have hw15 : wrOf x = [x.r] := by
                              have hf := HFO.out
                              obtain ⟨op, r, a, n', nm, ar'⟩ := x
                              have h15' : op = 15 := h15
                              subst h15'
                              rw [wr15, if_pos hf]
                            have HXR := Lib.hid (HWR.out x.r (by rw [hw15]; simp))
                            clear h5 h15 h16 h17 h18 h20 hw15
                            go_upto_region 18 with fail
                            obtain ⟨D, hD⟩ : ∃ X, Hid (X = w2.drew) := ⟨_, rfl⟩
                            have hd : Below w2.heap.size w2 D := by rw [hD.out]; exact bDrewN (Below.refl _ _) 1
                            have H3 := Lib.hid (H2.out.next hd)
                            have HK3 := Lib.hid (HK2.out.trans (KeptK.of hd))
                            have hS0 : BoxI D q x := BlkNext HX2.out hd
                            refine wp_region_N (fun w' => BoxI w' q x) (fun _ => true) (by kernel_rfl) ?_
                            rw [← hD.out]
                            clear hD hd x0 x1 x2 x3 x4 x5 c0 c1 c2 c3 c4 cl
                            obtain ⟨c0, c1, c2, c3, c4, cl⟩ := H3.out.cells
                            have f2 := H3.out.1.frozen 2
                            have HSX := Lib.hid hS0
                            refine wpAnyN_take (i := 0) (v := ?v8) rfl (by kernel_rfl) (by kernel_rfl) (by kernel_rfl) (by kernel_rfl) (fun _ _ _ h => h) (Or.inl ⟨by rfl, ?hy8⟩) (by assumption) ?_
                            case hy8 => intro w hSw; (try dsimp only at hSw); go_simp; try with_reducible rfl
                            simp only [Act.put, List.getElem_toArray, List.getElem_cons_zero, List.setIfInBounds_toArray, List.set_cons_zero, List.set_cons_succ]
                            refine wpAnyN_take (i := 1) (v := ?v9) rfl (by kernel_rfl) (by kernel_rfl) (by kernel_rfl) (by kernel_rfl) (fun _ _ _ h => h) (Or.inl ⟨by rfl, ?hy9⟩) (by assumption) ?_
                            case hy9 => intro w hSw; (try dsimp only at hSw); go_simp; try with_reducible rfl
                            simp only [Act.put, List.getElem_toArray, List.getElem_cons_zero, List.getElem_cons_succ, List.setIfInBounds_toArray, List.set_cons_zero, List.set_cons_succ]
                            refine wpAnyN_take (i := 2) (v := ?v10) rfl (by kernel_rfl) (by kernel_rfl) (by kernel_rfl) (by kernel_rfl) (fun _ _ _ h => h) (Or.inl ⟨by rfl, ?hy10⟩) (by assumption) ?_
                            case hy10 => intro w hSw; (try dsimp only at hSw); go_simp; try with_reducible rfl
                            simp only [Act.put, List.getElem_toArray, List.getElem_cons_zero, List.getElem_cons_succ, List.setIfInBounds_toArray, List.set_cons_zero, List.set_cons_succ]
                            refine wpAnyN_take (i := 3) (v := ?v11) rfl (by kernel_rfl) (by kernel_rfl) (by kernel_rfl) (by kernel_rfl) (fun _ _ _ h => h) (Or.inl ⟨by rfl, ?hy11⟩) (by assumption) ?_
                            case hy11 => intro w hSw; obtain ⟨x0, x1, x2, x3, x4, x5⟩ := BoxI.cells hSw; go_simp; try with_reducible rfl
                            simp only [Act.put, List.getElem_toArray, List.getElem_cons_zero, List.getElem_cons_succ, List.setIfInBounds_toArray, List.set_cons_zero, List.set_cons_succ]
                            refine wpAnyN_take (i := 4) (v := ?v12) rfl (by kernel_rfl) (by kernel_rfl) (by kernel_rfl) (by kernel_rfl) (fun _ _ _ h => h) (Or.inl ⟨by rfl, ?hy12⟩) (by assumption) ?_
                            case hy12 => intro w hSw; (try dsimp only at hSw); go_simp; try with_reducible rfl
                            simp only [Act.put, List.getElem_toArray, List.getElem_cons_zero, List.getElem_cons_succ, List.setIfInBounds_toArray, List.set_cons_zero, List.set_cons_succ]
                            refine wpAnyN_take (i := 5) (v := ?v13) rfl (by kernel_rfl) (by kernel_rfl) (by kernel_rfl) (by kernel_rfl) (fun _ _ _ h => h) (Or.inl ⟨by rfl, ?hy13⟩) (by assumption) ?_
                            case hy13 => intro w hSw; obtain ⟨x0, x1, x2, x3, x4, x5⟩ := BoxI.cells hSw; go_simp; try with_reducible rfl
                            simp only [Act.put, List.getElem_toArray, List.getElem_cons_zero, List.getElem_cons_succ, List.setIfInBounds_toArray, List.set_cons_zero, List.set_cons_succ]
                            refine wpAnyN_take (i := 6) (v := ?v14) rfl (by kernel_rfl) (by kernel_rfl) (by kernel_rfl) (by kernel_rfl) (fun _ _ _ h => h) (Or.inl ⟨by rfl, ?hy14⟩) (by assumption) ?_
                            case hy14 => intro w hSw; (try dsimp only at hSw); go_simp; try with_reducible rfl
                            simp only [Act.put, List.getElem_toArray, List.getElem_cons_zero, List.getElem_cons_succ, List.setIfInBounds_toArray, List.set_cons_zero, List.set_cons_succ]
                            refine wpAnyN_take (i := 7) (v := ?v15) rfl (by kernel_rfl) (by kernel_rfl) (by kernel_rfl) (by kernel_rfl) (fun _ _ _ h => h) (Or.inl ⟨by rfl, ?hy15⟩) (by assumption) ?_
                            case hy15 => intro w hSw; (try dsimp only at hSw); go_simp; try with_reducible rfl
                            simp only [Act.put, List.getElem_toArray, List.getElem_cons_zero, List.getElem_cons_succ, List.setIfInBounds_toArray, List.set_cons_zero, List.set_cons_succ]
                            refine wpAnyN_one (i := 8) (by kernel_rfl) rfl (fun K hK => ?_)
                            simp only [List.getElem_toArray, List.getElem_cons_zero, List.getElem_cons_succ]
                            go_simp
                            obtain ⟨w3, hw3⟩ : ∃ X, Hid (X = D.setCell ⟨k, 2, none⟩ (.int .i64 x.ar)) := ⟨_, rfl⟩
                            rw [← hw3.out]
                            have hS1 : BoxI w3 q x := by rw [hw3.out]; exact Blk.far HSX.out hqk _
                            refine hK _ _ (fun _ => hS1) ?_
                            have HSY := Lib.hid hS1
                            have H4 := Lib.hid (show CkAt (.bool true) 60 w3 k g { c with args := x.ar } by rw [hw3.out]; exact ⟨by simpa using H3.out.1.set_ 2 (.int .i64 x.ar), H3.out.2.set_ hne.symm _⟩)
                            have HK4 := Lib.hid (show KeptK k g w w3 by rw [hw3.out]; exact HK3.out.set (.inl rfl) _)
                            clear hw3 c0 c1 c2 c3 c4 cl f2 hS0
                            obtain ⟨c0, c1, c2, c3, c4, cl⟩ := H4.out.cells
                            have f3 := H4.out.1.frozen 3
                            (try simp only [Act.put, List.setIfInBounds_toArray, List.set_cons_zero, List.set_cons_succ])
                            refine wpAnyN_take (i := 9) (v := ?v16) rfl (by kernel_rfl) (by kernel_rfl) (by kernel_rfl) (by kernel_rfl) (fun _ _ _ h => h) (Or.inl ⟨by rfl, ?hy16⟩) (by assumption) ?_
                            case hy16 => intro w hSw; (try dsimp only at hSw); go_simp; try with_reducible rfl
                            simp only [Act.put, List.getElem_toArray, List.getElem_cons_zero, List.getElem_cons_succ, List.setIfInBounds_toArray, List.set_cons_zero, List.set_cons_succ]
                            refine wpAnyN_take (i := 10) (v := ?v17) rfl (by kernel_rfl) (by kernel_rfl) (by kernel_rfl) (by kernel_rfl) (fun _ _ _ h => h) (Or.inl ⟨by rfl, ?hy17⟩) (by assumption) ?_
                            case hy17 => intro w hSw; (try dsimp only at hSw); go_simp; try with_reducible rfl
                            simp only [Act.put, List.getElem_toArray, List.getElem_cons_zero, List.getElem_cons_succ, List.setIfInBounds_toArray, List.set_cons_zero, List.set_cons_succ]
                            refine wpAnyN_one (i := 11) (by kernel_rfl) rfl (fun K hK => ?_)
                            simp only [List.getElem_toArray, List.getElem_cons_zero, List.getElem_cons_succ]
                            go_simp
                            obtain ⟨w4, hw4⟩ : ∃ X, Hid (X = w3.setCell ⟨k, 3, none⟩ (.int .i64 x.r)) := ⟨_, rfl⟩
                            rw [← hw4.out]
                            have hS2 : BoxI w4 q x := by rw [hw4.out]; exact Blk.far HSY.out hqk _
                            refine hK _ _ (fun _ => hS2) ?_
                            have HSZ := Lib.hid hS2
                            have H5 := Lib.hid (show CkAt (.bool true) 60 w4 k g { c with args := x.ar, pend := x.r } by rw [hw4.out]; exact ⟨by simpa using H4.out.1.set_ 3 (.int .i64 x.r), H4.out.2.set_ hne.symm _⟩)
                            have HK5 := Lib.hid (show KeptK k g w w4 by rw [hw4.out]; exact HK4.out.set (.inl rfl) _)
                            clear hw4 c0 c1 c2 c3 c4 cl f3 hS1
                            (try simp only [Act.put, List.setIfInBounds_toArray, List.set_cons_zero, List.set_cons_succ])
                            refine wpAnyN_done (by kernel_rfl) ?_ _
                            clear hS2
                            obtain ⟨x0, x1, x2, x3, x4, x5⟩ := BoxI.cells HSZ.out
                            go_wp2_with fail
                            refine (exists_any { c with args := x.ar, pend := x.r } k g x.r w4 HXR.out H5.out).mono ?_
                            rintro e w5 ⟨rfl, rfl⟩
                            have HF := Lib.hid (show (stepP c x fi la).isSome = exP { c with args := x.ar, pend := x.r } x.r by rw [HE.out]; show _ = exP c x.r; cases exP c x.r <;> rfl)
                            clear x0 x1 x2 x3 x4 x5
                            go_wp2_with fail
                            go_ret
                            refine ⟨ret_bool HF.out.symm, fun c' h => ?_, HK5.out⟩
                            rw [HE.out] at h
                            split at h
                            · injection h with h
                              rw [← h]
                              exact H5.out
                            · cases h
                          · have q15 : (x.op == 15) = false := by simpa using h15
                            by_cases h19 : x.op = 19
                            · have q19 : (x.op == 19) = true := by simpa using h19
                              have HE := Lib.hid (show stepP c x fi la = if 0 ≤ c.env then some { c with d := fun r => c.d r && !decide (0 < r), called := true } else none by rw [HS.out, if_neg h5, if_neg h15, if_neg h16, if_neg h17, if_neg h18, if_pos h19])
                              clear h5 h15 h16 h17 h18 h19 h20
                              go_wp2_with (at_range; refine wpList_range_set _ rfl _ 58 rfl 4 under58 g c.d rfl H2.out.2 ?_; intro w3 hi3 hg3 hz3)
                              go_frame
                              have HB0 := Lib.hid (H2.out.1.grown hg3 (by simp))
                              have HI0 := Lib.hid hi3
                              have HKK := Lib.hid (HK2.out.grown hg3 (by simp))
                              obtain ⟨r, hr⟩ : ∃ q, Hid (q = w2.heap.size) := ⟨_, rfl⟩
                              rw [← hr.out] at HI0 ⊢
                              have hrk : r ≠ k := by rw [hr.out]; have := H2.out.1.lt; omega
                              have hrg : r ≠ g := by rw [hr.out]; have := H2.out.2.lt; omega
                              have hr0 : w.heap.size ≤ r := by rw [hr.out]; exact HK2.out.size
                              clear c0 c1 c2 c3 c4 cl x0 x1 x2 x3 x4 x5 hi3 hg3 hz3 hr
                              go_loopw [13] (fun _ wr => Hid (∃ left, ItI (.bool true) wr g r (fun y => c.d y && (!decide (0 < y) || left y)) left) ∧ Hid (Blk wr k 60 #[.map (some g), .int .i64 c.env, .int .i64 c.args, .int .i64 c.pend, .bool c.called]) ∧ Hid (KeptK k g w wr)) (fun _ wr => wr.rangeLeft g r)
                              case atStart =>
                                refine ⟨Lib.hid ⟨c.d, ?_⟩, HB0, HKK⟩
                                have e : (fun y => c.d y && (!decide (0 < y) || c.d y)) = c.d := by funext y; cases c.d y <;> simp
                                rw [e]
                                exact HI0.out
                              case round =>
                                obtain ⟨HI, HB, HW⟩ := hrel
                                obtain ⟨left, hi⟩ := HI.out
                                go_wp2_with (at_next; refine wpList_next_set _ rfl _ rfl g r _ left rfl hi ?_ ?_)
                                · intro hdone
                                  have HSF := Lib.hid (hi.set.congr (d' := fun y => c.d y && !decide (0 < y)) (fun y => by simp [hdone y]))
                                  clear hdone hi HI
                                  have c0 := HB.out.cell 0
                                  have c1 := HB.out.cell 1
                                  have c4 := HB.out.cell 4
                                  have f4 := HB.out.frozen 4
                                  have cl := HB.out.lt
                                  simp at c0 c1 c4
                                  have HF := Lib.hid (show (stepP c x fi la).isSome = decide (0 ≤ c.env) by rw [HE.out]; split <;> simp [*])
                                  go_wp2_with fail
                                  go_ret
                                  refine ⟨ret_bool HF.out.symm, fun c' h => ?_, HW.out.set (.inl rfl) _⟩
                                  rw [HE.out] at h
                                  split at h
                                  · injection h with h
                                    rw [← h]
                                    exact ⟨by simpa using HB.out.set_ 4 (.bool true), HSF.out.set_ hne.symm _⟩
                                  · cases h
                                · intro y w4 hy hi4 hlt hg4 hz4 hen
                                  have HB4 := Lib.hid (HB.out.grown hg4 (by intro e; injection e with e; exact hrk e))
                                  have HW4 := Lib.hid (HW.out.grown hg4 (fun i hi => by injection hi with hi; exact .inr (.inr (by omega))))
                                  have HI4 := Lib.hid hi4
                                  have HLT := Lib.hid hlt
                                  clear hi4 hy hlt hg4 hz4 HI hi
                                  cases he : decide (0 < y)
                                  · have HEY := Lib.hid he
                                    go_wp2_with fail
                                    clear he hen
                                    refine ⟨⟨Lib.hid ⟨fun z => left z && z != y, ?_⟩, HB4, HW4⟩, HLT.out⟩
                                    have e : (fun z => c.d z && (!decide (0 < z) || (left z && z != y))) = fun z => c.d z && (!decide (0 < z) || left z) := by
                                      funext z
                                      by_cases hz : z = y
                                      · subst hz; rw [HEY.out]; simp
                                      · have : (z != y) = true := by simpa using hz
                                        rw [this]; simp
                                    rw [e]
                                    exact HI4.out
                                  · have HEY := Lib.hid he
                                    have c0 := HB4.out.cell 0
                                    have cl := HB4.out.lt
                                    simp at c0
                                    go_wp2_with (at_delete; refine wpList_delete_it _ rfl _ _ 58 rfl 4 under58 g r _ _ rfl HI4.out y rfl ?_; intro w5 hi5 hle5 hg5 hz5; go_frame)
                                    clear he hen
                                    refine ⟨⟨Lib.hid ⟨fun z => (left z && z != y) && z != y, ?_⟩, Lib.hid (HB4.out.grown hg5 (fun e => hne.symm (by injection e))), Lib.hid (HW4.out.grown hg5 (fun i hi => by injection hi with hi; exact .inr (.inl hi.symm)))⟩, Nat.lt_of_le_of_lt hle5 HLT.out⟩
                                    have e : (fun z => c.d z && (!decide (0 < z) || ((left z && z != y) && z != y))) = fun z => (c.d z && (!decide (0 < z) || left z)) && z != y := by
                                      funext z
                                      by_cases hz : z = y
                                      · subst hz; rw [HEY.out]; simp
                                      · have : (z != y) = true := by simpa using hz
                                        rw [this]; simp
                                    rw [e]
                                    exact hi5
                            · have q19 : (x.op == 19) = false := by simpa using h19
                              by_cases h22 : x.op = 22
                              · have q22 : (x.op == 22) = true := by simpa using h22
                                have HE := Lib.hid (show stepP c x fi la = if c.called = true then none else wrP c [x.r] by rw [HS.out, if_neg h5, if_neg h15, if_neg h16, if_neg h17, if_neg h18, if_neg h19, if_neg h20, if_pos h22])
                                have hw22 : wrOf x = [x.r] := by
                                  have hf := HFO.out
                                  obtain ⟨op, r, a, n', nm, ar'⟩ := x
                                  have h22' : op = 22 := h22
                                  subst h22'
                                  rw [wr22, if_pos hf]
                                have HXR := Lib.hid (HWR.out x.r (by rw [hw22]; simp))
                                clear h5 h15 h16 h17 h18 h19 h20 h22 hw22
                                cases hcl : c.called
                                · have HE2 := Lib.hid (show stepP c x fi la = wrP c [x.r] by rw [HE.out, if_neg (by rw [hcl]; simp)])
                                  rw [hcl] at c4
                                  clear hcl
                                  go_wp2_with fail
                                  obtain ⟨w3, hw3⟩ : ∃ X, Hid (X = w2.alloc (.cells #[.int .i64 x.r] 3)) := ⟨_, rfl⟩
                                  rw [← hw3.out]
                                  have hb3 : Below w2.heap.size w2 w3 := by rw [hw3.out]; exact bAlloc _ _
                                  have H3 := Lib.hid (H2.out.next hb3)
                                  have HK3 := Lib.hid (HK2.out.trans (KeptK.of hb3))
                                  have hk2 := H2.out.1.lt
                                  have hg2 := H2.out.2.lt
                                  have HROW := Lib.hid (show RowI w3 k g (some ⟨w2.heap.size, 0, none⟩) 1 [x.r] from ⟨⟨rfl, by omega⟩, fun _ => ⟨w2.heap.size, 0, rfl, by rw [hw3.out]; simp, by omega, by omega, fun i y hy => by
                                    match i, hy with
                                    | 0, hy =>
                                      simp at hy
                                      subst hy
                                      rw [hw3.out]
                                      simp
                                    | i + 1, hy => simp at hy⟩⟩)
                                  clear hw3 hb3 hk2 hg2 c0 c1 c2 c3 c4 cl x0 x1 x2 x3 x4 x5
                                  refine (write_any c k g _ 1 1 [x.r] w3 HROW.out (fun r hr => by simp at hr; rw [hr]; exact HXR.out) H3.out).mono ?_
                                  rintro e w4 ⟨rfl, hck, hkp⟩
                                  have HK4 := Lib.hid (HK3.out.trans hkp)
                                  have HCK := Lib.hid hck
                                  clear hck hkp
                                  go_wp2_with fail
                                  go_ret
                                  exact ⟨ret_bool (by rw [HE2.out]), fun c' h => HCK.out c' (by rw [← HE2.out]; exact h), HK4.out⟩
                                · have HE2 := Lib.hid (show stepP c x fi la = none by rw [HE.out, if_pos hcl])
                                  rw [hcl] at c4
                                  clear hcl
                                  go_wp2_with fail
                                  go_ret
                                  exact ⟨ret_bool (by rw [HE2.out]; rfl), fun c' h => (by rw [HE2.out] at h; cases h), HK2.out⟩
                              · have q22 : (x.op == 22) = false := by simpa using h22
                                have HE := Lib.hid (show stepP c x fi la = wrP c (wrOf x) by rw [HS.out, if_neg h5, if_neg h15, if_neg h16, if_neg h17, if_neg h18, if_neg h19, if_neg h20, if_neg h22])
                                clear h5 h15 h16 h17 h18 h19 h20 h22
                                go_wp2_with fail
                                refine (writes_any x w2).mono ?_
                                rintro e w3 ⟨v, rfl, ho⟩
                                obtain ⟨A3, cp3, rfl, hrow⟩ := rowI_of (k := k) (g := g) ho HWL.out H2.out.1.lt H2.out.2.lt
                                have H3 := Lib.hid (H2.out.next ho.2)
                                have HK3 := Lib.hid (HK2.out.trans (KeptK.of ho.2))
                                have HROW := Lib.hid hrow
                                clear ho hrow c0 c1 c2 c3 c4 cl x0 x1 x2 x3 x4 x5
                                go_wp2_with fail
                                refine (write_any c k g A3 _ cp3 (wrOf x) w3 HROW.out HWR.out H3.out).mono ?_
                                rintro e w4 ⟨rfl, hck, hkp⟩
                                have HK4 := Lib.hid (HK3.out.trans hkp)
                                have HCK := Lib.hid hck
                                clear hck hkp
                                go_wp2_with fail
                                go_ret
                                exact ⟨ret_bool (by rw [HE.out]), fun c' h => HCK.out c' (by rw [← HE.out]; exact h), HK4.out⟩
              · have HE := Lib.hid (show stepP c x fi la = argP c x by unfold stepP; rw [if_neg HT.out, if_neg (by rw [HALL.out]; simp), if_pos har.out.symm])
                obtain ⟨x0, x1, x2, x3, x4, x5⟩ := BoxI.cells HX2.out
                go_wp2_with fail
                refine (argument_any c x k g w2 HC.out (HAN.out har.out.symm) HWR.out HWL.out H2.out).mono ?_
                rintro e w3 ⟨rfl, hck, hkp⟩
                have HCK := Lib.hid hck
                have HK3 := Lib.hid (HK2.out.trans hkp)
                clear hck hkp x0 x1 x2 x3 x4 x5
                go_wp2_with fail
                go_ret
                exact ⟨ret_bool (by rw [HE.out]), fun c' h => HCK.out c' (by rw [← HE.out]; exact h), HK3.out⟩
        · have HE := Lib.hid (show stepP c x fi la = none by unfold stepP; rw [if_pos]; rw [← har.out, ← hen.out]; rwa [Bool.or_eq_true] at h1)
          clear h1
          go_wp2_with fail
          go_ret
          exact ⟨ret_bool (by rw [HE.out]; rfl), fun c' h => (by rw [HE.out] at h; cases h), HK0.out⟩
end
section
open Go.RowKit

structure FoF (x : In) : Prop where
  rl : (rdOf x).length ≤ 1000000
  wl : (wrOf x).length ≤ 1000000
  wr : ∀ r ∈ wrOf x, r ≠ 0 ∧ -4096 ≤ r ∧ r ≤ 4096
  an : isArg x.op = true → 0 ≤ argN x ∧ argN x ≤ 8
  ar : x.op = 5 ∨ x.op = 15 → 1 ≤ x.ar ∧ x.ar ≤ 8
  r15 : x.op = 15 ∨ x.op = 22 → x.r ≠ 0 ∧ -4096 ≤ x.r ∧ x.r ≤ 4096
  n16 : x.op = 16 ∨ x.op = 17 → 0 ≤ x.n ∧ x.n ≤ 4096
theorem two_len (r a : Int) : (if [r].contains a then [r] else [r, a]).length ≤ 1000000 := by split <;> simp
theorem two_mem {r a : Int} {P : Int → Prop} (h1 : P r) (h2 : P a) : ∀ y ∈ (if [r].contains a then [r] else [r, a]), P y := by
  intro y hy
  split at hy
  · simp at hy; rw [hy]; exact h1
  · simp at hy; rcases hy with h | h <;> rw [h] <;> assumption
theorem fof1 (r a n : Int) (nm : ByteArray) (ar : Int) (h : fo ⟨1, r, a, n, nm, ar⟩ = true) : FoF ⟨1, r, a, n, nm, ar⟩ := by
  have h' := h
  rw [fo1] at h'
  simp [sameI, rOk, aOk] at h'
  exact ⟨by rw [rd1, if_pos h]; simp, by rw [wr1, if_pos h]; simp, by rw [wr1, if_pos h]; simp <;> omega, fun e => by simp [isArg] at e, fun e => by simp at e, fun e => by simp at e, fun e => by simp at e⟩
theorem fof2 (r a n : Int) (nm : ByteArray) (ar : Int) (h : fo ⟨2, r, a, n, nm, ar⟩ = true) : FoF ⟨2, r, a, n, nm, ar⟩ := by
  have h' := h
  rw [fo2] at h'
  simp [sameI, rOk, aOk] at h'
  exact ⟨by rw [rd2, if_pos h]; exact two_len _ _, by rw [wr2, if_pos h]; simp, by rw [wr2, if_pos h]; simp <;> omega, fun e => by simp [isArg] at e, fun e => by simp at e, fun e => by simp at e, fun e => by simp at e⟩
theorem fof3 (r a n : Int) (nm : ByteArray) (ar : Int) (h : fo ⟨3, r, a, n, nm, ar⟩ = true) : FoF ⟨3, r, a, n, nm, ar⟩ := by
  have h' := h
  rw [fo3] at h'
  simp [sameI, aOk] at h'
  exact ⟨by rw [rd3, if_pos h]; simp, by rw [wr3, if_pos h]; simp, by rw [wr3, if_pos h]; simp <;> omega, fun e => by simp [isArg] at e, fun e => by simp at e, fun e => by simp at e, fun e => by simp at e⟩
theorem fof4 (r a n : Int) (nm : ByteArray) (ar : Int) (h : fo ⟨4, r, a, n, nm, ar⟩ = true) : FoF ⟨4, r, a, n, nm, ar⟩ := by
  have h' := h
  rw [fo4] at h'
  simp [sameI, aOk] at h'
  exact ⟨by rw [rd4, if_pos h]; simp, by rw [wr4, if_pos h]; simp, by rw [wr4, if_pos h]; simp <;> omega, fun e => by simp [isArg] at e, fun e => by simp at e, fun e => by simp at e, fun e => by simp at e⟩
theorem fof5 (r a n : Int) (nm : ByteArray) (ar : Int) (h : fo ⟨5, r, a, n, nm, ar⟩ = true) : FoF ⟨5, r, a, n, nm, ar⟩ := by
  have h' := h
  rw [fo5] at h'
  simp [sameI, aOk] at h'
  exact ⟨by rw [rd5, if_pos h]; simp, by rw [wr5, if_pos h]; simp, by rw [wr5, if_pos h]; simp <;> omega, fun e => by simp [isArg] at e, fun _ => by simp; omega, fun e => by simp at e, fun e => by simp at e⟩
theorem fof6 (r a n : Int) (nm : ByteArray) (ar : Int) (h : fo ⟨6, r, a, n, nm, ar⟩ = true) : FoF ⟨6, r, a, n, nm, ar⟩ := by
  have h' := h
  rw [fo6] at h'
  simp [sameI, rOk] at h'
  exact ⟨by rw [rd6, if_pos h]; simp, by rw [wr6, if_pos h]; simp, by rw [wr6, if_pos h]; simp <;> omega, fun e => by simp [argN], fun e => by simp at e, fun e => by simp at e, fun e => by simp at e⟩
theorem fof7 (r a n : Int) (nm : ByteArray) (ar : Int) (h : fo ⟨7, r, a, n, nm, ar⟩ = true) : FoF ⟨7, r, a, n, nm, ar⟩ := by
  have h' := h
  rw [fo7] at h'
  simp [sameI, rOk] at h'
  exact ⟨by rw [rd7, if_pos h]; simp, by rw [wr7, if_pos h]; simp, by rw [wr7, if_pos h]; simp <;> omega, fun e => by simp [argN], fun e => by simp at e, fun e => by simp at e, fun e => by simp at e⟩
theorem fof8 (r a n : Int) (nm : ByteArray) (ar : Int) (h : fo ⟨8, r, a, n, nm, ar⟩ = true) : FoF ⟨8, r, a, n, nm, ar⟩ := by
  have h' := h
  rw [fo8] at h'
  simp [sameI] at h'
  exact ⟨by rw [rd8, if_pos h]; simp, by rw [wr8, if_pos h]; simp, by rw [wr8, if_pos h]; simp <;> omega, fun e => by simp [argN], fun e => by simp at e, fun e => by simp at e, fun e => by simp at e⟩
theorem fof9 (r a n : Int) (nm : ByteArray) (ar : Int) (h : fo ⟨9, r, a, n, nm, ar⟩ = true) : FoF ⟨9, r, a, n, nm, ar⟩ := by
  have h' := h
  rw [fo9] at h'
  simp [sameI] at h'
  exact ⟨by rw [rd9, if_pos h]; simp, by rw [wr9, if_pos h]; simp, by rw [wr9, if_pos h]; simp <;> omega, fun e => by simp [argN], fun e => by simp at e, fun e => by simp at e, fun e => by simp at e⟩
theorem fof10 (r a n : Int) (nm : ByteArray) (ar : Int) (h : fo ⟨10, r, a, n, nm, ar⟩ = true) : FoF ⟨10, r, a, n, nm, ar⟩ := by
  have h' := h
  rw [fo10] at h'
  simp [sameI] at h'
  exact ⟨by rw [rd10, if_pos h]; simp, by rw [wr10, if_pos h]; simp, by rw [wr10, if_pos h]; simp <;> omega, fun e => by simp [argN]; omega, fun e => by simp at e, fun e => by simp at e, fun e => by simp at e⟩
theorem fof11 (r a n : Int) (nm : ByteArray) (ar : Int) (h : fo ⟨11, r, a, n, nm, ar⟩ = true) : FoF ⟨11, r, a, n, nm, ar⟩ := by
  have h' := h
  rw [fo11] at h'
  simp [sameI, rOk, aOk] at h'
  exact ⟨by rw [rd11, if_pos h]; simp, by rw [wr11, if_pos h]; exact two_len _ _, by rw [wr11, if_pos h]; exact two_mem (by omega) (by omega), fun e => by simp [isArg] at e, fun e => by simp at e, fun e => by simp at e, fun e => by simp at e⟩
theorem fof12 (r a n : Int) (nm : ByteArray) (ar : Int) (h : fo ⟨12, r, a, n, nm, ar⟩ = true) : FoF ⟨12, r, a, n, nm, ar⟩ := by
  have h' := h
  rw [fo12] at h'
  simp [sameI, rOk, aOk] at h'
  exact ⟨by rw [rd12, if_pos h]; simp, by rw [wr12, if_pos h]; simp, by rw [wr12, if_pos h]; simp <;> omega, fun e => by simp [isArg] at e, fun e => by simp at e, fun e => by simp at e, fun e => by simp at e⟩
theorem fof13 (r a n : Int) (nm : ByteArray) (ar : Int) (h : fo ⟨13, r, a, n, nm, ar⟩ = true) : FoF ⟨13, r, a, n, nm, ar⟩ := by
  have h' := h
  rw [fo13] at h'
  simp [sameI, aOk] at h'
  exact ⟨by rw [rd13, if_pos h]; simp, by rw [wr13, if_pos h]; simp, by rw [wr13, if_pos h]; simp <;> omega, fun e => by simp [isArg] at e, fun e => by simp at e, fun e => by simp at e, fun e => by simp at e⟩
theorem fof14 (r a n : Int) (nm : ByteArray) (ar : Int) (h : fo ⟨14, r, a, n, nm, ar⟩ = true) : FoF ⟨14, r, a, n, nm, ar⟩ := by
  have h' := h
  rw [fo14] at h'
  simp [sameI, aOk] at h'
  exact ⟨by rw [rd14, if_pos h]; simp, by rw [wr14, if_pos h]; simp, by rw [wr14, if_pos h]; simp <;> omega, fun e => by simp [isArg] at e, fun e => by simp at e, fun e => by simp at e, fun e => by simp at e⟩
theorem fof15 (r a n : Int) (nm : ByteArray) (ar : Int) (h : fo ⟨15, r, a, n, nm, ar⟩ = true) : FoF ⟨15, r, a, n, nm, ar⟩ := by
  have h' := h
  rw [fo15] at h'
  simp [sameI, rOk] at h'
  exact ⟨by rw [rd15, if_pos h]; simp, by rw [wr15, if_pos h]; simp, by rw [wr15, if_pos h]; simp <;> omega, fun e => by simp [isArg] at e, fun _ => by simp; omega, fun _ => by simp; omega, fun e => by simp at e⟩
theorem fof16 (r a n : Int) (nm : ByteArray) (ar : Int) (h : fo ⟨16, r, a, n, nm, ar⟩ = true) : FoF ⟨16, r, a, n, nm, ar⟩ := by
  have h' := h
  rw [fo16] at h'
  simp [sameI] at h'
  exact ⟨by rw [rd16, if_pos h]; simp, by rw [wr16, if_pos h]; simp, by rw [wr16, if_pos h]; simp <;> omega, fun e => by simp [isArg] at e, fun e => by simp at e, fun e => by simp at e, fun _ => by simp; omega⟩
theorem fof17 (r a n : Int) (nm : ByteArray) (ar : Int) (h : fo ⟨17, r, a, n, nm, ar⟩ = true) : FoF ⟨17, r, a, n, nm, ar⟩ := by
  have h' := h
  rw [fo17] at h'
  simp [sameI] at h'
  exact ⟨by rw [rd17, if_pos h]; simp, by rw [wr17, if_pos h]; simp, by rw [wr17, if_pos h]; simp <;> omega, fun e => by simp [isArg] at e, fun e => by simp at e, fun e => by simp at e, fun _ => by simp; omega⟩
theorem fof18 (r a n : Int) (nm : ByteArray) (ar : Int) (h : fo ⟨18, r, a, n, nm, ar⟩ = true) : FoF ⟨18, r, a, n, nm, ar⟩ := by
  have h' := h
  rw [fo18] at h'
  simp [sameI] at h'
  exact ⟨by rw [rd18, if_pos h]; simp, by rw [wr18, if_pos h]; simp, by rw [wr18, if_pos h]; simp <;> omega, fun e => by simp [isArg] at e, fun e => by simp at e, fun e => by simp at e, fun e => by simp at e⟩
theorem fof19 (r a n : Int) (nm : ByteArray) (ar : Int) (h : fo ⟨19, r, a, n, nm, ar⟩ = true) : FoF ⟨19, r, a, n, nm, ar⟩ := by
  have h' := h
  rw [fo19] at h'
  simp [sameI, pdOk] at h'
  have hb : 0 ≤ ar ∧ ar ≤ 4096 := by
    have e := h'.1
    split at e
    · have := e.2; omega
    · exact ⟨e.2.2.2.1, e.2.2.2.2⟩
  exact ⟨by rw [rd19, if_pos h]; simp; omega, by rw [wr19, if_pos h]; simp, by rw [wr19, if_pos h]; simp <;> omega, fun e => by simp [isArg] at e, fun e => by simp at e, fun e => by simp at e, fun e => by simp at e⟩
theorem fof20 (r a n : Int) (nm : ByteArray) (ar : Int) (h : fo ⟨20, r, a, n, nm, ar⟩ = true) : FoF ⟨20, r, a, n, nm, ar⟩ := by
  have h' := h
  rw [fo20] at h'
  simp [sameI, pdOk] at h'
  have hb : 0 ≤ ar ∧ ar ≤ 4096 := by
    have e := h'.1
    split at e
    · have := e.2; omega
    · exact ⟨e.2.2.2.1, e.2.2.2.2⟩
  exact ⟨by rw [rd20, if_pos h]; simp; omega, by rw [wr20, if_pos h]; simp, by rw [wr20, if_pos h]; simp <;> omega, fun e => by simp [isArg] at e, fun e => by simp at e, fun e => by simp at e, fun e => by simp at e⟩
theorem fof21 (r a n : Int) (nm : ByteArray) (ar : Int) (h : fo ⟨21, r, a, n, nm, ar⟩ = true) : FoF ⟨21, r, a, n, nm, ar⟩ := by
  have h' := h
  rw [fo21] at h'
  simp [sameI] at h'
  exact ⟨by rw [rd21, if_pos h]; simp, by rw [wr21, if_pos h]; simp, by rw [wr21, if_pos h]; simp <;> omega, fun e => by simp [isArg] at e, fun e => by simp at e, fun e => by simp at e, fun e => by simp at e⟩
theorem fof22 (r a n : Int) (nm : ByteArray) (ar : Int) (h : fo ⟨22, r, a, n, nm, ar⟩ = true) : FoF ⟨22, r, a, n, nm, ar⟩ := by
  have h' := h
  rw [fo22] at h'
  simp [sameI, rOk] at h'
  exact ⟨by rw [rd22, if_pos h]; simp, by rw [wr22, if_pos h]; simp, by rw [wr22, if_pos h]; simp <;> omega, fun e => by simp [isArg] at e, fun e => by simp at e, fun _ => by simp; omega, fun e => by simp at e⟩
theorem fof23 (r a n : Int) (nm : ByteArray) (ar : Int) (h : fo ⟨23, r, a, n, nm, ar⟩ = true) : FoF ⟨23, r, a, n, nm, ar⟩ := by
  have h' := h
  rw [fo23] at h'
  simp [sameI, rOk] at h'
  exact ⟨by rw [rd23, if_pos h]; simp, by rw [wr23, if_pos h]; simp, by rw [wr23, if_pos h]; simp <;> omega, fun e => by simp [isArg] at e, fun e => by simp at e, fun e => by simp at e, fun e => by simp at e⟩
theorem fof24 (r a n : Int) (nm : ByteArray) (ar : Int) (h : fo ⟨24, r, a, n, nm, ar⟩ = true) : FoF ⟨24, r, a, n, nm, ar⟩ := by
  have h' := h
  rw [fo24] at h'
  simp [sameI, rOk] at h'
  exact ⟨by rw [rd24, if_pos h]; simp, by rw [wr24, if_pos h]; simp, by rw [wr24, if_pos h]; simp <;> omega, fun e => by simp [isArg] at e, fun e => by simp at e, fun e => by simp at e, fun e => by simp at e⟩
theorem fof25 (r a n : Int) (nm : ByteArray) (ar : Int) (h : fo ⟨25, r, a, n, nm, ar⟩ = true) : FoF ⟨25, r, a, n, nm, ar⟩ := by
  have h' := h
  rw [fo25] at h'
  simp [sameI] at h'
  exact ⟨by rw [rd25, if_pos h]; simp, by rw [wr25, if_pos h]; simp, by rw [wr25, if_pos h]; simp <;> omega, fun e => by simp [isArg] at e, fun e => by simp at e, fun e => by simp at e, fun e => by simp at e⟩
theorem fof {x : In} (h : fo x = true) : FoF x := by
  obtain ⟨op, r, a, n, nm, ar⟩ := x
  rcases op_cases (fo_op h) with rfl | rfl | rfl | rfl | rfl | rfl | rfl | rfl | rfl | rfl | rfl | rfl | rfl | rfl | rfl | rfl | rfl | rfl | rfl | rfl | rfl | rfl | rfl | rfl | rfl
  · exact fof1 _ _ _ _ _ h
  · exact fof2 _ _ _ _ _ h
  · exact fof3 _ _ _ _ _ h
  · exact fof4 _ _ _ _ _ h
  · exact fof5 _ _ _ _ _ h
  · exact fof6 _ _ _ _ _ h
  · exact fof7 _ _ _ _ _ h
  · exact fof8 _ _ _ _ _ h
  · exact fof9 _ _ _ _ _ h
  · exact fof10 _ _ _ _ _ h
  · exact fof11 _ _ _ _ _ h
  · exact fof12 _ _ _ _ _ h
  · exact fof13 _ _ _ _ _ h
  · exact fof14 _ _ _ _ _ h
  · exact fof15 _ _ _ _ _ h
  · exact fof16 _ _ _ _ _ h
  · exact fof17 _ _ _ _ _ h
  · exact fof18 _ _ _ _ _ h
  · exact fof19 _ _ _ _ _ h
  · exact fof20 _ _ _ _ _ h
  · exact fof21 _ _ _ _ _ h
  · exact fof22 _ _ _ _ _ h
  · exact fof23 _ _ _ _ _ h
  · exact fof24 _ _ _ _ _ h
  · exact fof25 _ _ _ _ _ h
theorem CkOk.wr {c c' : Ck} {l : List Int} (h : CkOk c) (hl : ∀ r ∈ l, r ≠ 0 ∧ -4096 ≤ r ∧ r ≤ 4096) (hw : wrP c l = some c') : CkOk c' := by
  have he := wr_env hw
  have hd : c'.d = fun x => c.d x || l.contains x := by
    unfold wrP at hw
    split at hw
    · injection hw with hw; subst hw; rfl
    · cases hw
  refine ⟨by rw [he.1]; exact h.env, by rw [he.2.1]; exact h.args, by rw [he.2.2.1]; exact h.pend, fun r hr => ?_⟩
  rw [hd] at hr
  simp only [Bool.or_eq_true] at hr
  rcases hr with hr | hr
  · exact h.d r hr
  · exact hl r (by simpa using hr)
theorem CkOk.rz {c : Ck} (h : CkOk c) {n : Int} (hn : -1 ≤ n ∧ n ≤ 4096) : CkOk (rzP c n) :=
  ⟨hn, h.args, h.pend, fun r hr => h.d r (by simp only [rzP, Bool.and_eq_true] at hr; exact hr.1)⟩
theorem ite_some {p : Prop} [Decidable p] {α : Type} {a b : Option α} {c : α} (h : (if p then a else b) = some c) : (p ∧ a = some c) ∨ (¬ p ∧ b = some c) := by
  by_cases hp : p
  · rw [if_pos hp] at h; exact .inl ⟨hp, h⟩
  · rw [if_neg hp] at h; exact .inr ⟨hp, h⟩
theorem step_ok {c c' : Ck} {x : In} {fi la : Bool} (h : CkOk c) (hx : fo x = true) (hs : stepP c x fi la = some c') : CkOk c' := by
  have F := fof hx
  unfold stepP at hs
  rcases ite_some hs with ⟨_, hs⟩ | ⟨_, hs⟩
  · cases hs
  rcases ite_some hs with ⟨_, hs⟩ | ⟨_, hs⟩
  · cases hs
  rcases ite_some hs with ⟨ha, hs⟩ | ⟨_, hs⟩
  · unfold argP at hs
    rcases ite_some hs with ⟨_, hs⟩ | ⟨hlt, hs⟩
    · cases hs
    · have hN := F.an ha
      cases hw : wrP { c with args := c.args - argN x } (wrOf x) with
      | none => rw [hw] at hs; cases hs
      | some d =>
        rw [hw] at hs
        injection hs with hs
        have hd : CkOk d := CkOk.wr (c := { c with args := c.args - argN x }) ⟨h.env, ⟨by show 0 ≤ c.args - argN x; omega, by show c.args - argN x ≤ 8; have := h.args; omega⟩, h.pend, h.d⟩ F.wr hw
        subst hs
        by_cases hp : d.args = 0 ∧ d.pend ≠ 0
        · rw [end_turn hp]
          refine ⟨hd.env, hd.args, ⟨by show (-4096 : Int) ≤ 0; omega, by show (0 : Int) ≤ 4096; omega⟩, fun r hr => ?_⟩
          simp only [Bool.or_eq_true] at hr
          rcases hr with hr | hr
          · exact hd.d r hr
          · have : r = d.pend := by simpa using hr
            subst this
            exact ⟨hp.2, hd.pend⟩
        · rw [end_keep hp]; exact hd
  rcases ite_some hs with ⟨h5, hs⟩ | ⟨_, hs⟩
  · injection hs with hs
    subst hs
    have := F.ar (.inl h5)
    exact ⟨h.env, ⟨by show 0 ≤ x.ar; omega, this.2⟩, h.pend, h.d⟩
  rcases ite_some hs with ⟨h5, hs⟩ | ⟨_, hs⟩
  · rcases ite_some hs with ⟨_, hs⟩ | ⟨_, hs⟩
    · injection hs with hs
      subst hs
      have := F.ar (.inr h5)
      exact ⟨h.env, ⟨by show 0 ≤ x.ar; omega, this.2⟩, (F.r15 (.inl h5)).2, h.d⟩
    · cases hs
  rcases ite_some hs with ⟨h5, hs⟩ | ⟨_, hs⟩
  · rcases ite_some hs with ⟨_, hs⟩ | ⟨_, hs⟩
    · injection hs with hs
      subst hs
      have := F.n16 (.inl h5)
      exact ⟨⟨by show -1 ≤ x.n; omega, this.2⟩, h.args, h.pend, h.d⟩
    · cases hs
  rcases ite_some hs with ⟨h5, hs⟩ | ⟨_, hs⟩
  · rcases ite_some hs with ⟨_, hs⟩ | ⟨_, hs⟩
    · cases hs
    · injection hs with hs
      subst hs
      have := F.n16 (.inr h5)
      exact h.rz ⟨by omega, this.2⟩
  rcases ite_some hs with ⟨h5, hs⟩ | ⟨_, hs⟩
  · rcases ite_some hs with ⟨_, hs⟩ | ⟨_, hs⟩
    · cases hs
    · injection hs with hs
      subst hs
      exact h.rz (by omega)
  rcases ite_some hs with ⟨h5, hs⟩ | ⟨_, hs⟩
  · rcases ite_some hs with ⟨_, hs⟩ | ⟨_, hs⟩
    · injection hs with hs
      subst hs
      exact ⟨h.env, h.args, h.pend, fun r hr => h.d r (by simp only [Bool.and_eq_true] at hr; exact hr.1)⟩
    · cases hs
  rcases ite_some hs with ⟨h5, hs⟩ | ⟨_, hs⟩
  · rcases ite_some hs with ⟨_, hs⟩ | ⟨_, hs⟩
    · injection hs with hs
      subst hs
      exact h
    · cases hs
  rcases ite_some hs with ⟨h5, hs⟩ | ⟨_, hs⟩
  · rcases ite_some hs with ⟨_, hs⟩ | ⟨_, hs⟩
    · cases hs
    · exact h.wr (fun r hr => by rw [List.mem_singleton.1 hr]; exact F.r15 (.inr h5)) hs
  · exact h.wr F.wr hs
/-- the check at its beginning -/
def begP (ar : Int) : Ck := ⟨fun x => decide (1 ≤ x) && decide (x ≤ ar), -1, 0, 0, false⟩
theorem beg_ok {ar : Int} (h : ar ≤ 4096) : CkOk (begP ar) :=
  ⟨by simp [begP], by simp [begP], by simp [begP], fun r hr => by simp [begP] at hr; omega⟩
/-- the check at a place of a block -/
def upto (ar : Int) (l : List In) : Nat → Option Ck
  | 0 => some (begP ar)
  | j + 1 => (upto ar l j).bind fun c => (l[j]?).bind fun x => if fo x then stepP c x (j == 0) (j + 1 == l.length) else none
/-- is a block valid? -/
def vaP (b : Bk) : Bool := (hdP b && (decide (1 ≤ b.code.length) && decide (b.code.length ≤ 131072))) && (upto b.par b.code b.code.length).isSome
theorem upto_none {ar : Int} {l : List In} {j : Nat} (h : upto ar l j = none) : ∀ k, j ≤ k → upto ar l k = none := by
  intro k hk
  induction k with
  | zero => have : j = 0 := by omega
            subst this; exact h
  | succ k ih =>
    by_cases e : j = k + 1
    · subst e; exact h
    · show (upto ar l k).bind _ = none
      rw [ih (by omega)]
      rfl
theorem upto_ok {ar : Int} {l : List In} (ha : ar ≤ 4096) : ∀ (j : Nat) {c : Ck}, upto ar l j = some c → CkOk c
  | 0, c, h => by
    injection h with h
    subst h
    exact beg_ok ha
  | j + 1, c, h => by
    unfold upto at h
    cases h1 : upto ar l j with
    | none => rw [h1] at h; cases h
    | some d =>
      cases h2 : l[j]? with
      | none => rw [h1, h2] at h; cases h
      | some x =>
        rw [h1, h2] at h
        simp only [Option.bind_some] at h
        split at h
        · rename_i hf
          exact step_ok (upto_ok ha j h1) hf h
        · cases h
theorem hd_par {b : Bk} (h : hdP b = true) : 0 ≤ b.par ∧ b.par ≤ 4096 := by
  unfold hdP at h
  simp only [Bool.and_eq_true] at h
  have h2 := h.2.1
  unfold pdOk at h2
  split at h2
  · simp at h2; omega
  · simp at h2; omega
end
end Go.Proofs.YtbipeakinmbdiaaGreatDoor
