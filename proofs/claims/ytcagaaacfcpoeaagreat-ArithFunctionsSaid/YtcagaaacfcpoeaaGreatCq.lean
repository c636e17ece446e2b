/-
  Walks: the closure of Call.
-/
import Derived.Test.YtcagaaacfcpoeaaGreatCp
namespace Go.Proofs.YtcagaaacfcpoeaaGreat
open Go.RowKit

/-- the answers of a goal with two arguments, or its ball -/
def callL (s : ByteArray) (x y : Tm) : Except Tm (List Tm) :=
  if (s.toList == [105, 115]) = true then match valT y with
    | .error b => .error b
    | .ok n => .ok [structC { data := #[105, 115] } [intC n, y]]
  else match valT.go [x, y] with
    | .error b => .error b
    | .ok vs => if cmpB s (vs.getD 0 0) (vs.getD 1 0) = true then .ok [cloneT (.mk 3 0 s [x, y])] else .ok []
/-- a slice of terms, by value -/
def OutAt (w : World) (F : Nat → Prop) (v : Value) (l : List Tm) : Prop := ∃ A c, v = .slice A l.length c ∧ ArgsAt w F A l
theorem callL_is {s : ByteArray} {x y : Tm} {n : Int} (h : (s.toList == [105, 115]) = true) (hv : valT y = .ok n) : callL s x y = .ok [structC { data := #[105, 115] } [intC n, y]] := by
  unfold callL; rw [if_pos h, hv]
theorem callL_isE {s : ByteArray} {x y b : Tm} (h : (s.toList == [105, 115]) = true) (hv : valT y = .error b) : callL s x y = .error b := by
  unfold callL; rw [if_pos h, hv]
theorem callL_cmp {s : ByteArray} {x y : Tm} {a b : Int} (h : (s.toList == [105, 115]) = false) (hv : valT.go [x, y] = .ok [a, b]) : callL s x y = if cmpB s a b = true then .ok [cloneT (.mk 3 0 s [x, y])] else .ok [] := by
  unfold callL; rw [if_neg (by simp [h]), hv]; rfl
theorem callL_cmpE {s : ByteArray} {x y b : Tm} (h : (s.toList == [105, 115]) = false) (hv : valT.go [x, y] = .error b) : callL s x y = .error b := by
  unfold callL; rw [if_neg (by simp [h]), hv]
def CallP (w : World) (pa : Nat) (s : ByteArray) (x y : Tm) (w2 : World) : Prop := ∃ l v, callL s x y = .ok l ∧ Blk w2 pa 22 #[v] ∧ OutAt w2 (Btw w.heap.size w2.heap.size) v l
theorem run_enter {P : Program} {f : FuncId} {fn : Func} (hf : P.funcs[f]? = some fn) (hname : (fn.name == "runtime.NumGoroutine") = false) (hb : fn.body.isNone = false) (args : Array Value) (w : World) :
    (callFunc f args).run P w = .ok (.enter f args) w := by
  have h1 : fn.name ≠ "runtime.NumGoroutine" := by simpa using hname
  obtain ⟨c, hc⟩ : ∃ c, fn.body = some c := by
    cases h : fn.body with
    | none => rw [h] at hb; cases hb
    | some c => exact ⟨c, rfl⟩
  simp [callFunc, hf, h1, hc]
theorem cmp_call {x : ByteArray} {f : Nat} (h : (lookS cmpT x).isSome = true) (hf : ((lookS cmpT x).map (·.2)).getD .nilFunc = fnv f) : ∀ (args : Array Value) (w : World), (callFunc f args).run Tryz.prog w = .ok (.enter f args) w := by
  have h6 : f = 79 ∨ f = 80 ∨ f = 81 ∨ f = 82 ∨ f = 83 ∨ f = 84 := by
    revert h hf
    unfold cmpT
    simp only [lookS]
    repeat' split
    all_goals simp
    all_goals intro e; simp [e]
  rcases h6 with rfl | rfl | rfl | rfl | rfl | rfl
  · exact run_enter Tryz.func79 (by kernel_rfl) (by kernel_rfl)
  · exact run_enter Tryz.func80 (by kernel_rfl) (by kernel_rfl)
  · exact run_enter Tryz.func81 (by kernel_rfl) (by kernel_rfl)
  · exact run_enter Tryz.func82 (by kernel_rfl) (by kernel_rfl)
  · exact run_enter Tryz.func83 (by kernel_rfl) (by kernel_rfl)
  · exact run_enter Tryz.func84 (by kernel_rfl) (by kernel_rfl)
set_option maxRecDepth 100000 in
set_option maxHeartbeats 4000000 in
theorem callf35_any (s : ByteArray) (x y : Tm) (A : Option Addr) (c q pa : Nat) (w : World) (hok : validT (.mk 3 0 s [x, y]) = true) (hrg : rngT (.mk 3 0 s [x, y]) = true) (hcs : (s.toList == [105, 115]) = true ∨ (lookS cmpT s).isSome = true)
    (hq : Blk w q 24 #[.int .i64 3, .int .i64 0, .string s, .slice A 2 c]) (hp : Blk w pa 22 #[.slice none 0 0]) (ha : ArgsAt w (Nq w pa) A [x, y]) (hqp : q ≠ pa) :
    Calls Tryz.prog 32 #[.pointer (some ⟨q, 0, none⟩), .pointer (some ⟨pa, 0, none⟩)] w fun e w2 => ((e = .returned (.tuple #[]) ∧ CallP w pa s x y w2) ∨
      ∃ b A c, e = .panicked [{ v := .iface 65 (Tm.v b A c), recovered := false }] ∧ callL s x y = .error b ∧ Blk w2 pa 22 #[.slice none 0 0] ∧ ArgsAt w2 (Btw w.heap.size w2.heap.size) A b.args) ∧ KeptQ pa w w2 := by
  obtain ⟨ab, ao, x', Ax, cx, rfl, hF, hx, hx4, hAx⟩ := ha.at (i := 0) (by simp)
  obtain ⟨ab2, ao2, y', Ay, cy, heq, -, hy, hy4, hAy⟩ := ha.at (i := 1) (by simp)
  injection heq with heq
  injection heq with h1 h2
  subst h1 h2
  obtain rfl : x = x' := by simpa using hx
  obtain rfl : y = y' := by simpa using hy
  have HC := Lib.hid (show ∀ w', KeptQ pa w w' → w'.cell? ⟨q, 0, none⟩ = some (.int .i64 3) ∧ w'.cell? ⟨q, 1, none⟩ = some (.int .i64 0) ∧ w'.cell? ⟨q, 2, none⟩ = some (.string s) ∧ w'.cell? ⟨q, 3, none⟩ = some (.slice (some ⟨ab, ao, none⟩) 2 c) ∧ q < w'.heap.size ∧
      w'.cell? ⟨ab, ao, none⟩ = some (.int .i64 x.kind) ∧ w'.cell? ⟨ab, ao + 1, none⟩ = some (.int .i64 x.n) ∧ w'.cell? ⟨ab, ao + 2, none⟩ = some (.string x.name) ∧ w'.cell? ⟨ab, ao + 3, none⟩ = some (.slice Ax x.args.length cx) ∧
      w'.cell? ⟨ab, ao + 4, none⟩ = some (.int .i64 y.kind) ∧ w'.cell? ⟨ab, ao + 4 + 1, none⟩ = some (.int .i64 y.n) ∧ w'.cell? ⟨ab, ao + 4 + 2, none⟩ = some (.string y.name) ∧ w'.cell? ⟨ab, ao + 4 + 3, none⟩ = some (.slice Ay y.args.length cy) ∧ ab < w'.heap.size from fun w' hk => by
    have hb := hk.block q hq.lt hqp
    have h0 : ∀ j, w'.cell? ⟨q, j, none⟩ = w.cell? ⟨q, j, none⟩ := fun j => World.cell?_of_block (w := w) (w' := w') (a := ⟨q, j, none⟩) hb
    have hb2 := hk.block ab hF.1 hF.2
    have h1 : ∀ j, w'.cell? ⟨ab, j, none⟩ = w.cell? ⟨ab, j, none⟩ := fun j => World.cell?_of_block (w := w) (w' := w') (a := ⟨ab, j, none⟩) hb2
    have c0 := hq.cell 0
    have c1 := hq.cell 1
    have c2 := hq.cell 2
    have c3 := hq.cell 3
    simp at c0 c1 c2 c3
    have d := hx4
    have f := hy4
    unfold TmCells at d f
    simp only [Nat.zero_mul, Nat.one_mul, Nat.add_zero] at d f
    exact ⟨(h0 _).trans c0, (h0 _).trans c1, (h0 _).trans c2, (h0 _).trans c3, Nat.lt_of_lt_of_le hq.lt hk.size, (h1 _).trans d.1, (h1 _).trans d.2.1, (h1 _).trans d.2.2.1, (h1 _).trans d.2.2.2, (h1 _).trans f.1, (h1 _).trans f.2.1, (h1 _).trans f.2.2.1, (h1 _).trans f.2.2.2, Nat.lt_of_lt_of_le hF.1 hk.size⟩)
  have hvo := validT_ok hok
  have HOK := Lib.hid hvo
  have HRG := Lib.hid hrg
  have HVAL := Lib.hid hok
  have HP := Lib.hid hp
  have HAX := Lib.hid hAx
  have HAY := Lib.hid hAy
  have HA := Lib.hid ha
  have HK0 := Lib.hid (KeptQ.of (q := pa) (Below.refl w.heap.size w))
  clear hok hrg hq hp ha hF hx4 hy4 hx hy hAx hAy hvo
  have hoka := okT_args HOK.out.1
  have hrga := rngT_args HRG.out
  simp only [Tm.args, okT.go, rngT.go, Bool.and_eq_true, Bool.and_true] at hoka hrga
  have HOA := Lib.hid hoka
  have HRA := Lib.hid hrga
  clear hoka hrga
  cases hs : s.toList == [105, 115]
  · have HS := Lib.hid hs
    have HCS := Lib.hid (show (lookS cmpT s).isSome = true by
      rcases hcs with h | h
      · rw [hs] at h; cases h
      · exact h)
    clear hcs
    obtain ⟨f, hf, hcmp⟩ := cmp_fn HCS.out
    have HF := Lib.hid hf
    have hcall := cmp_call HCS.out hf
    have HCMP := Lib.hid hcmp
    clear hf hcmp
    obtain ⟨e0, e1, e2, e3, el, x0, x1, x2, x3, y0, y1, y2, y3, al⟩ := HC.out _ HK0.out
    go_enter Tryz.func32, Tryz.ntmps32
    go_wp2_with fail
    refine (each38_of _ (value22_any _) [x, y] (Nat.lt_succ_self _) (okT_args HOK.out.1) (rngT_args HRG.out) (by simp) (some ⟨ab, ao, none⟩) c w (HA.out.keep (fun _ _ => rfl) (fun _ h => h.1))).mono ?_
    rintro e w1 ⟨hv, hb1⟩
    have HK1 := Lib.hid (KeptQ.of (q := pa) hb1)
    have HB1 := Lib.hid hb1
    have HP1 := Lib.hid (BlkNext HP.out hb1)
    clear e0 e1 e2 e3 el x0 x1 x2 x3 y0 y1 y2 y3 al
    clear hb1
    cases hvt : valT.go [x, y] with
    | error b =>
      rw [hvt] at hv
      obtain ⟨A9, c9, rfl, h9⟩ := hv
      exact ⟨rfl, .inr ⟨b, A9, c9, rfl, callL_cmpE HS.out hvt, HP1.out, h9⟩, HK1.out⟩
    | ok vs =>
      rw [hvt] at hv
      obtain ⟨v, rfl, hown⟩ := hv
      have hl := valT_go_len hvt
      match vs, hl with
      | [a, b], _ =>
      obtain ⟨gv, cv, rfl⟩ := own_some hown (by simp)
      have hz1 := (hown.lt gv rfl)
      have v0 : w1.cell? ⟨gv, 0, none⟩ = some (.int .i64 a) := by simpa [Addr.add] using hown.cells (g := gv) rfl 0 (.int .i64 a) rfl
      have v1 : w1.cell? ⟨gv, 1, none⟩ = some (.int .i64 b) := by simpa [Addr.add] using hown.cells (g := gv) rfl 1 (.int .i64 b) rfl
      have HE := Lib.hid (callL_cmp HS.out hvt)
      have HV := Lib.hid (show ∀ w', KeptQ pa w1 w' → w'.cell? ⟨gv, 0, none⟩ = some (.int .i64 a) ∧ w'.cell? ⟨gv, 1, none⟩ = some (.int .i64 b) ∧ gv < w'.heap.size from fun w' hk => by
        have hb := hk.block gv hz1.2 (by have := HP.out.lt; omega)
        have h0 : ∀ j, w'.cell? ⟨gv, j, none⟩ = w1.cell? ⟨gv, j, none⟩ := fun j => World.cell?_of_block (w := w1) (w' := w') (a := ⟨gv, j, none⟩) hb
        exact ⟨(h0 _).trans v0, (h0 _).trans v1, Nat.lt_of_lt_of_le hz1.2 hk.size⟩)
      clear hvt hl hown v0 v1 hz1
      go_upto_region 4 with fail
      obtain ⟨D, hD⟩ : ∃ X, Hid (X = w1.drew) := ⟨_, rfl⟩
      have hd : Below w1.heap.size w1 D := by rw [hD.out]; exact bDrewN (Below.refl _ _) 1
      have hS0 : KeptQ pa w1 D := KeptQ.of hd
      refine wp_region_N (fun w' => KeptQ pa w1 w') (fun _ => true) (by kernel_rfl) ?_
      rw [← hD.out]
      have HBD := Lib.hid (HB1.out.trans (hd.mono HB1.out.size))
      have HPD := Lib.hid (BlkNext HP1.out hd)
      clear hD hd
      refine wpAnyN_take (i := 1) (v := ?v1) rfl (by kernel_rfl) (by kernel_rfl) (by kernel_rfl) (by kernel_rfl) (fun _ _ _ h => h) (Or.inl ⟨by rfl, ?hy1⟩) (by assumption) ?_
      case hy1 => intro w hSw; obtain ⟨e0, e1, e2, e3, el, x0, x1, x2, x3, y0, y1, y2, y3, al⟩ := HC.out _ (HK1.out.trans hSw); obtain ⟨v0, v1, vl⟩ := HV.out _ hSw; go_simp; try with_reducible rfl
      simp only [Act.put, List.getElem_toArray, List.getElem_cons_zero, List.getElem_cons_succ, List.setIfInBounds_toArray, List.set_cons_zero, List.set_cons_succ]
      refine wpAnyN_take (i := 2) (v := ?v2) rfl (by kernel_rfl) (by kernel_rfl) (by kernel_rfl) (by kernel_rfl) (fun _ _ _ h => h) (Or.inl ⟨by rfl, ?hy2⟩) (by assumption) ?_
      case hy2 => intro w hSw; obtain ⟨e0, e1, e2, e3, el, x0, x1, x2, x3, y0, y1, y2, y3, al⟩ := HC.out _ (HK1.out.trans hSw); obtain ⟨v0, v1, vl⟩ := HV.out _ hSw; go_simp; try with_reducible rfl
      simp only [Act.put, List.getElem_toArray, List.getElem_cons_zero, List.getElem_cons_succ, List.setIfInBounds_toArray, List.set_cons_zero, List.set_cons_succ]
      refine wpAnyN_take (i := 4) (v := ?v3) rfl (by kernel_rfl) (by kernel_rfl) (by kernel_rfl) (by kernel_rfl) (fun _ _ _ h => h) (Or.inl ⟨by rfl, ?hy3⟩) (by assumption) ?_
      case hy3 => intro w hSw; obtain ⟨e0, e1, e2, e3, el, x0, x1, x2, x3, y0, y1, y2, y3, al⟩ := HC.out _ (HK1.out.trans hSw); obtain ⟨v0, v1, vl⟩ := HV.out _ hSw; go_simp; try with_reducible rfl
      simp only [Act.put, List.getElem_toArray, List.getElem_cons_zero, List.getElem_cons_succ, List.setIfInBounds_toArray, List.set_cons_zero, List.set_cons_succ]
      refine wpAnyN_take (i := 5) (v := ?v4) rfl (by kernel_rfl) (by kernel_rfl) (by kernel_rfl) (by kernel_rfl) (fun _ _ _ h => h) (Or.inl ⟨by rfl, ?hy4⟩) (by assumption) ?_
      case hy4 => intro w hSw; obtain ⟨e0, e1, e2, e3, el, x0, x1, x2, x3, y0, y1, y2, y3, al⟩ := HC.out _ (HK1.out.trans hSw); obtain ⟨v0, v1, vl⟩ := HV.out _ hSw; go_simp; try with_reducible rfl
      simp only [Act.put, List.getElem_toArray, List.getElem_cons_zero, List.getElem_cons_succ, List.setIfInBounds_toArray, List.set_cons_zero, List.set_cons_succ]
      refine wpAnyN_take (i := 6) (v := ?v5) rfl (by kernel_rfl) (by kernel_rfl) (by kernel_rfl) (by kernel_rfl) (fun _ _ _ h => h) (Or.inl ⟨by rfl, ?hy5⟩) (by assumption) ?_
      case hy5 => intro w hSw; obtain ⟨e0, e1, e2, e3, el, x0, x1, x2, x3, y0, y1, y2, y3, al⟩ := HC.out _ (HK1.out.trans hSw); obtain ⟨v0, v1, vl⟩ := HV.out _ hSw; go_simp; try with_reducible rfl
      simp only [Act.put, List.getElem_toArray, List.getElem_cons_zero, List.getElem_cons_succ, List.setIfInBounds_toArray, List.set_cons_zero, List.set_cons_succ]
      refine wpAnyN_take (i := 7) (v := ?v6) rfl (by kernel_rfl) (by kernel_rfl) (by kernel_rfl) (by kernel_rfl) (fun _ _ _ h => h) (Or.inl ⟨by rfl, ?hy6⟩) (by assumption) ?_
      case hy6 => intro w hSw; obtain ⟨e0, e1, e2, e3, el, x0, x1, x2, x3, y0, y1, y2, y3, al⟩ := HC.out _ (HK1.out.trans hSw); obtain ⟨v0, v1, vl⟩ := HV.out _ hSw; go_simp; try with_reducible rfl
      simp only [Act.put, List.getElem_toArray, List.getElem_cons_zero, List.getElem_cons_succ, List.setIfInBounds_toArray, List.set_cons_zero, List.set_cons_succ]
      refine wpAnyN_take (i := 8) (v := ?v7) rfl (by kernel_rfl) (by kernel_rfl) (by kernel_rfl) (by kernel_rfl) (fun _ _ _ h => h) (Or.inl ⟨by rfl, ?hy7⟩) (by assumption) ?_
      case hy7 => intro w hSw; obtain ⟨e0, e1, e2, e3, el, x0, x1, x2, x3, y0, y1, y2, y3, al⟩ := HC.out _ (HK1.out.trans hSw); obtain ⟨v0, v1, vl⟩ := HV.out _ hSw; go_simp; try with_reducible rfl
      simp only [Act.put, List.getElem_toArray, List.getElem_cons_zero, List.getElem_cons_succ, List.setIfInBounds_toArray, List.set_cons_zero, List.set_cons_succ]
      refine wpAnyN_take (i := 9) (v := ?v8) rfl (by kernel_rfl) (by kernel_rfl) (by kernel_rfl) (by kernel_rfl) (fun _ _ _ h => h) (Or.inl ⟨by rfl, ?hy8⟩) (by assumption) ?_
      case hy8 => intro w hSw; obtain ⟨e0, e1, e2, e3, el, x0, x1, x2, x3, y0, y1, y2, y3, al⟩ := HC.out _ (HK1.out.trans hSw); obtain ⟨v0, v1, vl⟩ := HV.out _ hSw; go_simp; try with_reducible rfl
      simp only [Act.put, List.getElem_toArray, List.getElem_cons_zero, List.getElem_cons_succ, List.setIfInBounds_toArray, List.set_cons_zero, List.set_cons_succ]
      refine wpAnyN_one (i := 0) (by kernel_rfl) rfl (fun K hK => ?_)
      simp only [List.getElem_toArray, List.getElem_cons_zero]
      go_simp
      refine (comp39_any D).mono ?_
      rintro e w2 ⟨⟨gm, rfl, hm, hgm⟩, hb2⟩
      have HB2 := Lib.hid (HBD.out.trans (hb2.mono HBD.out.size))
      have HP2 := Lib.hid (BlkNext HPD.out hb2)
      have hk2 : KeptQ pa w1 w2 := hS0.trans (KeptQ.of hb2)
      refine hK _ _ (fun _ => hk2) ?_
      clear hb2 hS0
      have hlook := run_look57f hm s
      rw [HF.out] at hlook
      clear hm hgm
      (try simp only [Act.put, List.setIfInBounds_toArray, List.set_cons_zero, List.set_cons_succ])
      refine wpAnyN_one (i := 3) (by kernel_rfl) rfl (fun K hK => ?_)
      simp only [List.getElem_toArray, List.getElem_cons_zero, List.getElem_cons_succ]
      go_simp
      refine hK _ _ (fun _ => hk2) ?_
      clear hlook
      (try simp only [Act.put, List.setIfInBounds_toArray, List.set_cons_zero, List.set_cons_succ])
      refine wpAnyN_one (i := 10) (by kernel_rfl) rfl (fun K hK => ?_)
      simp only [List.getElem_toArray, List.getElem_cons_zero, List.getElem_cons_succ]
      go_simp
      refine (HCMP.out a b w2).mono ?_
      rintro e w3 ⟨rfl, hb3⟩
      have HB3 := Lib.hid (HB2.out.trans (hb3.mono HB2.out.size))
      have HP3 := Lib.hid (BlkNext HP2.out hb3)
      have hk3 : KeptQ pa w1 w3 := hk2.trans (KeptQ.of hb3)
      refine hK _ _ (fun _ => hk3) ?_
      have HK3 := Lib.hid (HK1.out.trans hk3)
      clear hb3 hk2 hk3 hcall
      (try simp only [Act.put, List.setIfInBounds_toArray, List.set_cons_zero, List.set_cons_succ])
      refine wpAnyN_done (by kernel_rfl) ?_ _
      cases hcb : cmpB s a b
      · have HE2 := Lib.hid (show callL s x y = .ok [] by rw [HE.out, hcb]; rfl)
        clear hcb
        go_wp2_with fail
        refine ⟨rfl, .tuple #[], by simp [results, Tryz.results32, go_sem], .inl ⟨rfl, _, _, HE2.out, HP3.out, none, 0, rfl, .nil _⟩, HK3.out⟩
      · have HE2 := Lib.hid (show callL s x y = .ok [cloneT (.mk 3 0 s [x, y])] by rw [HE.out, hcb]; rfl)
        clear hcb
        obtain ⟨e0, e1, e2, e3, el, x0, x1, x2, x3, y0, y1, y2, y3, al⟩ := HC.out _ HK3.out
        go_wp2_with fail
        refine (clone40_any (.mk 3 0 s [x, y]) (some ⟨ab, ao, none⟩) c w3 (HA.out.keep (w' := w3) (G := Old w3.heap.size) (fun b hb => HB3.out.block b hb.1) (fun b hb => Nat.lt_of_lt_of_le hb.1 HB3.out.size))).mono ?_
        rintro e w4 ⟨⟨A4, c4, rfl, ha4⟩, hb4⟩
        obtain ⟨z, hz⟩ : ∃ z, Hid (z = cloneT (.mk 3 0 s [x, y])) := ⟨_, rfl⟩
        rw [← hz.out] at ha4 HE2 ⊢
        clear hz
        have HB4 := Lib.hid (HB3.out.trans (hb4.mono HB3.out.size))
        have HP4 := Lib.hid (BlkNext HP3.out hb4)
        have HK4 := Lib.hid (HK3.out.trans (KeptQ.of (q := pa) hb4))
        have HA4 := Lib.hid (ha4.keep (w' := w4) (G := Btw w.heap.size w4.heap.size) (fun _ _ => rfl) (fun b hb => ⟨Nat.le_trans HB3.out.size hb.1, hb.2⟩))
        clear ha4 hb4
        clear e0 e1 e2 e3 el x0 x1 x2 x3 y0 y1 y2 y3 al
        have s0 := (HP4.out.alloc (.cells #[.int .i64 z.kind, .int .i64 z.n, .string z.name, .slice A4 z.args.length c4] 24)).cell 0
        have g0 := (HP4.out.alloc (.cells #[.int .i64 z.kind, .int .i64 z.n, .string z.name, .slice A4 z.args.length c4] 24)).frozen 0
        have sl := HP4.out.lt
        simp at s0
        go_wp2_with fail
        obtain ⟨g4, hg4⟩ : ∃ q, Hid (q = w4.heap.size) := ⟨_, rfl⟩
        obtain ⟨w5, hw5⟩ : ∃ X, Hid (X = w4.setCell ⟨pa, 0, none⟩ (.slice (some ⟨g4, 0, none⟩) 1 1)) := ⟨_, rfl⟩
        rw [← hg4.out, ← hw5.out]
        have hz5 : w5.heap.size = w4.heap.size := by rw [hw5.out]; simp
        have hp5 : Blk w5 pa 22 #[.slice (some ⟨g4, 0, none⟩) 1 1] := by rw [hw5.out]; simpa using HP4.out.set_ 0 (.slice (some ⟨g4, 0, none⟩) 1 1)
        have hk5 : KeptQ pa w w5 := by rw [hw5.out]; exact KeptQ.setq HK4.out _
        have ha5 : ArgsAt w5 (Btw w.heap.size w5.heap.size) A4 z.args := HA4.out.keep (fun b hb => by rw [hw5.out]; exact heap_setCell_other _ _ _ _ (by have := hb.1; have := HP.out.lt; simp; omega)) (fun b hb => ⟨hb.1, by have := hb.2; omega⟩)
        rw [hg4.out, ← hz5]
        rw [hg4.out, ← hz5] at hp5
        refine ⟨rfl, .tuple #[], by simp [results, Tryz.results32, go_sem], .inl ⟨rfl, _, _, HE2.out, hp5.alloc _, some ⟨w5.heap.size, 0, none⟩, 1, rfl, ?_⟩, hk5.trans (KeptQ.of (bAlloc _ _))⟩
        exact args_one (F := Btw w.heap.size w5.heap.size) ha5 (fun b hb => ⟨hb.2, hb.1, by have := hb.2; simp; omega⟩) ⟨hk5.size, by simp⟩
  · have HS := Lib.hid hs
    clear hcs
    obtain ⟨e0, e1, e2, e3, el, x0, x1, x2, x3, y0, y1, y2, y3, al⟩ := HC.out _ HK0.out
    go_enter Tryz.func32, Tryz.ntmps32
    go_wp2_with fail
    refine (value22_any _ y (Nat.lt_succ_self _) HOA.out.2 HRA.out.2 Ay cy w (HAY.out.keep (fun _ _ => rfl) (fun _ h => h.1))).mono ?_
    rintro e w1 ⟨hv, hb1⟩
    have HK1 := Lib.hid (KeptQ.of (q := pa) hb1)
    have HB1 := Lib.hid hb1
    have HP1 := Lib.hid (BlkNext HP.out hb1)
    clear e0 e1 e2 e3 el x0 x1 x2 x3 y0 y1 y2 y3 al
    clear hb1
    cases hvt : valT y with
    | error b =>
      rw [hvt] at hv
      obtain ⟨A9, c9, rfl, h9⟩ := hv
      exact ⟨rfl, .inr ⟨b, A9, c9, rfl, callL_isE HS.out hvt, HP1.out, h9⟩, HK1.out⟩
    | ok n =>
      rw [hvt] at hv
      have hv' : e = .returned (.int .i64 n) := hv
      subst hv'
      have HE := Lib.hid (callL_is (x := x) HS.out hvt)
      clear hvt hv
      go_upto_region 2 with fail
      obtain ⟨D, hD⟩ : ∃ X, Hid (X = w1.drew) := ⟨_, rfl⟩
      have hd : Below w1.heap.size w1 D := by rw [hD.out]; exact bDrewN (Below.refl _ _) 1
      have hS0 : KeptQ pa w D := HK1.out.trans (KeptQ.of hd)
      refine wp_region_N (fun w' => KeptQ pa w w') (fun _ => true) (by kernel_rfl) ?_
      rw [← hD.out]
      have HBD := Lib.hid (HB1.out.trans (hd.mono HB1.out.size))
      have HPD := Lib.hid (BlkNext HP1.out hd)
      clear hD hd
      refine wpAnyN_take (i := 0) (v := ?v9) rfl (by kernel_rfl) (by kernel_rfl) (by kernel_rfl) (by kernel_rfl) (fun _ _ _ h => h) (Or.inl ⟨by rfl, ?hy9⟩) (by assumption) ?_
      case hy9 => intro w hSw; obtain ⟨e0, e1, e2, e3, el, x0, x1, x2, x3, y0, y1, y2, y3, al⟩ := HC.out _ hSw; go_simp; try with_reducible rfl
      simp only [Act.put, List.getElem_toArray, List.getElem_cons_zero, List.setIfInBounds_toArray, List.set_cons_zero, List.set_cons_succ]
      refine wpAnyN_take (i := 2) (v := ?v10) rfl (by kernel_rfl) (by kernel_rfl) (by kernel_rfl) (by kernel_rfl) (fun _ _ _ h => h) (Or.inl ⟨by rfl, ?hy10⟩) (by assumption) ?_
      case hy10 => intro w hSw; obtain ⟨e0, e1, e2, e3, el, x0, x1, x2, x3, y0, y1, y2, y3, al⟩ := HC.out _ hSw; go_simp; try with_reducible rfl
      simp only [Act.put, List.getElem_toArray, List.getElem_cons_zero, List.getElem_cons_succ, List.setIfInBounds_toArray, List.set_cons_zero, List.set_cons_succ]
      refine wpAnyN_take (i := 3) (v := ?v11) rfl (by kernel_rfl) (by kernel_rfl) (by kernel_rfl) (by kernel_rfl) (fun _ _ _ h => h) (Or.inl ⟨by rfl, ?hy11⟩) (by assumption) ?_
      case hy11 => intro w hSw; obtain ⟨e0, e1, e2, e3, el, x0, x1, x2, x3, y0, y1, y2, y3, al⟩ := HC.out _ hSw; go_simp; try with_reducible rfl
      simp only [Act.put, List.getElem_toArray, List.getElem_cons_zero, List.getElem_cons_succ, List.setIfInBounds_toArray, List.set_cons_zero, List.set_cons_succ]
      refine wpAnyN_take (i := 4) (v := ?v12) rfl (by kernel_rfl) (by kernel_rfl) (by kernel_rfl) (by kernel_rfl) (fun _ _ _ h => h) (Or.inl ⟨by rfl, ?hy12⟩) (by assumption) ?_
      case hy12 => intro w hSw; obtain ⟨e0, e1, e2, e3, el, x0, x1, x2, x3, y0, y1, y2, y3, al⟩ := HC.out _ hSw; go_simp; try with_reducible rfl
      simp only [Act.put, List.getElem_toArray, List.getElem_cons_zero, List.getElem_cons_succ, List.setIfInBounds_toArray, List.set_cons_zero, List.set_cons_succ]
      refine wpAnyN_take (i := 5) (v := ?v13) rfl (by kernel_rfl) (by kernel_rfl) (by kernel_rfl) (by kernel_rfl) (fun _ _ _ h => h) (Or.inl ⟨by rfl, ?hy13⟩) (by assumption) ?_
      case hy13 => intro w hSw; obtain ⟨e0, e1, e2, e3, el, x0, x1, x2, x3, y0, y1, y2, y3, al⟩ := HC.out _ hSw; go_simp; try with_reducible rfl
      simp only [Act.put, List.getElem_toArray, List.getElem_cons_zero, List.getElem_cons_succ, List.setIfInBounds_toArray, List.set_cons_zero, List.set_cons_succ]
      refine wpAnyN_one (i := 1) (by kernel_rfl) rfl (fun K hK => ?_)
      simp only [List.getElem_toArray, List.getElem_cons_zero, List.getElem_cons_succ]
      go_simp
      refine (int37_any n D).mono ?_
      rintro e w2 ⟨rfl, hb2⟩
      have HB2 := Lib.hid (HBD.out.trans (hb2.mono HBD.out.size))
      have HP2 := Lib.hid (BlkNext HPD.out hb2)
      have hk2 : KeptQ pa w w2 := hS0.trans (KeptQ.of hb2)
      refine hK _ _ (fun _ => hk2) ?_
      clear hb2 hS0
      (try simp only [Act.put, List.setIfInBounds_toArray, List.set_cons_zero, List.set_cons_succ])
      refine wpAnyN_one (i := 6) (by kernel_rfl) rfl (fun K hK => ?_)
      simp only [List.getElem_toArray, List.getElem_cons_zero, List.getElem_cons_succ]
      go_simp
      obtain ⟨w3, hw3⟩ : ∃ X, Hid (X = w2.alloc (.cells #[.int .i64 (intC n).kind, .int .i64 (intC n).n, .string (intC n).name, .slice none (intC n).args.length 0, .int .i64 y.kind, .int .i64 y.n, .string y.name, .slice Ay y.args.length cy] 24)) := ⟨_, rfl⟩
      obtain ⟨g3, hg3⟩ : ∃ q, Hid (q = w2.heap.size) := ⟨_, rfl⟩
      rw [← hw3.out, ← hg3.out]
      have hb3 : Below w2.heap.size w2 w3 := by rw [hw3.out]; exact bAlloc _ _
      have hk3 : KeptQ pa w w3 := hk2.trans (KeptQ.of hb3)
      have HB3 := Lib.hid (HB2.out.trans (hb3.mono HB2.out.size))
      have HP3 := Lib.hid (BlkNext HP2.out hb3)
      have hl3 : ArgsAt w3 (Old w3.heap.size) (some ⟨g3, 0, none⟩) [intC n, y] := by
        rw [hw3.out, hg3.out]
        exact args_two (F := Old w2.heap.size) (x := intC n) (y := y) (A := none) (c := 0) (.nil _) ((HAY.out.keep (fun b hb => HB2.out.block b hb.1) (fun b hb => Nat.lt_of_lt_of_le hb.1 HB2.out.size))) (fun b hb => ⟨hb, by have : b < w2.heap.size := hb; simp; omega⟩) (by simp)
      have HL3 := Lib.hid hl3
      refine hK _ _ (fun _ => hk3) ?_
      clear hk2 hb3 hl3 hw3
      (try simp only [Act.put, List.setIfInBounds_toArray, List.set_cons_zero, List.set_cons_succ])
      refine wpAnyN_one (i := 7) (by kernel_rfl) rfl (fun K hK => ?_)
      simp only [List.getElem_toArray, List.getElem_cons_zero, List.getElem_cons_succ]
      go_simp
      refine (struct36_any _ [intC n, y] (some ⟨g3, 0, none⟩) 2 w3 HL3.out).mono ?_
      rintro e w4 ⟨⟨A4, c4, rfl, ha4⟩, hb4⟩
      have HB4 := Lib.hid (HB3.out.trans (hb4.mono HB3.out.size))
      have HP4 := Lib.hid (BlkNext HP3.out hb4)
      have hk4 : KeptQ pa w w4 := hk3.trans (KeptQ.of hb4)
      have HA4 := Lib.hid (ha4.keep (w' := w4) (G := Btw w.heap.size w4.heap.size) (fun _ _ => rfl) (fun b hb => ⟨Nat.le_trans HB3.out.size hb.1, hb.2⟩))
      refine hK _ _ (fun _ => hk4) ?_
      clear hk3 hb4 ha4
      obtain ⟨z, hz⟩ : ∃ z, Hid (z = structC { data := #[105, 115] } [intC n, y]) := ⟨_, rfl⟩
      rw [← hz.out] at HA4 HE ⊢
      clear hz
      (try simp only [Act.put, List.setIfInBounds_toArray, List.set_cons_zero, List.set_cons_succ])
      refine wpAnyN_one (i := 8) (by kernel_rfl) rfl (fun K hK => ?_)
      simp only [List.getElem_toArray, List.getElem_cons_zero, List.getElem_cons_succ]
      go_simp
      obtain ⟨w5, hw5⟩ : ∃ X, Hid (X = w4.alloc (.cells #[.int .i64 z.kind, .int .i64 z.n, .string z.name, .slice A4 z.args.length c4] 24)) := ⟨_, rfl⟩
      obtain ⟨g5, hg5⟩ : ∃ q, Hid (q = w4.heap.size) := ⟨_, rfl⟩
      rw [← hw5.out, ← hg5.out]
      have hb5 : Below w4.heap.size w4 w5 := by rw [hw5.out]; exact bAlloc _ _
      have hk5 : KeptQ pa w w5 := hk4.trans (KeptQ.of hb5)
      have HB5 := Lib.hid (HB4.out.trans (hb5.mono HB4.out.size))
      have HP5 := Lib.hid (BlkNext HP4.out hb5)
      have HL5 := Lib.hid (show ArgsAt w5 (Btw w.heap.size w5.heap.size) (some ⟨g5, 0, none⟩) [z] by
        rw [hw5.out, hg5.out]
        exact args_one (F := Btw w.heap.size w4.heap.size) HA4.out (fun b hb => ⟨hb.2, hb.1, by have := hb.2; simp; omega⟩) ⟨HB4.out.size, by simp⟩)
      refine hK _ _ (fun _ => hk5) ?_
      clear hk4 hb5 hw5
      (try simp only [Act.put, List.setIfInBounds_toArray, List.set_cons_zero, List.set_cons_succ])
      have s0 := HP5.out.cell 0
      have g0 := HP5.out.frozen 0
      have sl := HP5.out.lt
      simp at s0
      refine wpAnyN_one (i := 9) (by kernel_rfl) rfl (fun K hK => ?_)
      simp only [List.getElem_toArray, List.getElem_cons_zero, List.getElem_cons_succ]
      go_simp
      have hk6 : KeptQ pa w (w5.setCell ⟨pa, 0, none⟩ (.slice (some ⟨g5, 0, none⟩) 1 1)) := KeptQ.setq hk5 _
      refine hK _ _ (fun _ => hk6) ?_
      have HK6 := Lib.hid hk6
      have HP6 := Lib.hid (show Blk (w5.setCell ⟨pa, 0, none⟩ (.slice (some ⟨g5, 0, none⟩) 1 1)) pa 22 #[.slice (some ⟨g5, 0, none⟩) 1 1] by simpa using HP5.out.set_ 0 (.slice (some ⟨g5, 0, none⟩) 1 1))
      have HL6 := Lib.hid (HL5.out.keep (w' := w5.setCell ⟨pa, 0, none⟩ (.slice (some ⟨g5, 0, none⟩) 1 1)) (G := Btw w.heap.size w5.heap.size) (fun b hb => heap_setCell_other _ _ _ _ (by have := hb.1; have := HP.out.lt; simp; omega)) (fun _ h => h))
      refine wpAnyN_done (by kernel_rfl) ?_ _
      clear hk5 hk6 s0 g0 sl
      go_wp2_with fail
      refine ⟨rfl, .tuple #[], by simp [results, Tryz.results32, go_sem], .inl ⟨rfl, _, _, HE.out, HP6.out, _, _, rfl, HL6.out.keep (fun _ _ => rfl) (fun b hb => ⟨hb.1, by have := hb.2; simpa using this⟩)⟩, HK6.out⟩
end Go.Proofs.YtcagaaacfcpoeaaGreat
