/-
  Walks: apply with the numbering of variables; the program's Canon and the reference's.
-/
import Derived.Test.YtcagaaacfcpoeaaGreatCc
import Derived.MapKept
namespace Go.Proofs.YtcagaaacfcpoeaaGreat
open Go.RowKit

theorem under2 : Tryz.prog.underlying 2 = some (.int .i64) := by kernel_rfl
theorem under70 : Tryz.prog.underlying 75 = some (.map 2 2) := by kernel_rfl
theorem run_zero2 (w : World) : (zeroValue 2).run Tryz.prog w = .ok (.int .i64 0) w := by kernel_rfl
theorem run_checkKeyI (em : Bool) (x : Int) (w : World) : (Instr.checkKey em 10000 2 (.int .i64 x)).run Tryz.prog w = .ok () w := by kernel_rfl
/-- the value that a list of keys and values has for a key -/
def lookI : List (Int × Value) → Int → Option (Nat × Value)
  | [], _ => none
  | (k, v) :: t, x => if x = k then some (0, v) else (lookI t x).map fun r => (r.1 + 1, r.2)
theorem findNow_atI (x : Int) : ∀ (l : List (Int × Value)) (es : List MapEntry) (j : Nat), es.map (fun e => (e.key, e.val)) = l.map (fun p => (Value.int .i64 p.1, p.2)) →
    Instr.findNow (.int .i64) (.int .i64 x) es j = some ((lookI l x).map fun r => (j + r.1, r.2)) := by
  intro l
  induction l with
  | nil =>
    intro es j h
    cases es with
    | nil => simp [Instr.findNow, lookI]
    | cons e es => simp at h
  | cons y t ih =>
    intro es j h
    cases es with
    | nil => simp at h
    | cons e es =>
      simp only [List.map_cons, List.cons.injEq, Prod.mk.injEq] at h
      obtain ⟨⟨hk, hv⟩, ht⟩ := h
      unfold Instr.findNow lookI
      rw [hk]
      have hs : Instr.sameNow (.int .i64) (.int .i64 x) (.int .i64 y.1) = some (x == y.1) := rfl
      rw [hs]
      by_cases he : x = y.1
      · simp [he, hv]
      · rw [show (x == y.1) = false by simpa using he]
        simp [he, ih es (j + 1) ht, Nat.add_assoc, Nat.add_comm 1, Function.comp_def]
/-- numbers with their places -/
def zipK : List Int → Nat → List (Int × Value)
  | [], _ => []
  | x :: r, j => (x, .int .i64 (j : Int)) :: zipK r (j + 1)
theorem zipK_snoc (l : List Int) (n : Int) (j : Nat) : zipK (l ++ [n]) j = zipK l j ++ [(n, .int .i64 ((j + l.length : Nat) : Int))] := by
  induction l generalizing j with
  | nil => rfl
  | cons x r ih => simp only [List.cons_append, zipK, ih, List.length_cons]; rw [show j + 1 + r.length = j + (r.length + 1) by omega]
theorem zipK_len (l : List Int) (j : Nat) : (zipK l j).length = l.length := by
  induction l generalizing j with
  | nil => rfl
  | cons x r ih => simp [zipK, ih]
theorem posI_cons (x : Int) (r : List Int) (n : Int) : posI (x :: r) n = if x = n then 0 else if posI r n < 0 then -1 else posI r n + 1 := by
  unfold posI
  by_cases h : x = n
  · simp [h, List.findIdx?_cons]
  · rw [List.findIdx?_cons]
    simp only [show (x == n) = false by simpa using h, if_neg h]
    cases r.findIdx? (· == n) with
    | none => simp
    | some k => simp; omega
theorem look_zip (l : List Int) (n : Int) (j : Nat) : (lookI (zipK l j) n).map (·.2) = if posI l n < 0 then none else some (.int .i64 ((j : Int) + posI l n)) := by
  induction l generalizing j with
  | nil => simp [zipK, lookI, posI]
  | cons x r ih =>
    have hr := posI_range r n
    rw [posI_cons]
    unfold zipK lookI
    by_cases h : n = x
    · subst h; simp
    · rw [if_neg h, if_neg (Ne.symm h)]
      have h1 := ih (j + 1)
      rw [Option.map_map]
      show (lookI (zipK r (j + 1)) n).map (fun r => r.2) = _
      rw [h1]
      by_cases h2 : posI r n < 0
      · simp [h2]
      · rw [if_neg h2, if_neg h2, if_neg (by omega)]
        congr 2
        omega
/-- block g numbers variables -/
def MapP (w : World) (g : Nat) (l : List Int) : Prop := ∃ (es : Array MapEntry) (c : Nat), w.heap[g]? = some (.map es c) ∧ es.toList.map (fun e => (e.key, e.val)) = (zipK l 0).map (fun p => (Value.int .i64 p.1, p.2))
theorem MapP.stay {w w' : World} {g : Nat} {l : List Int} (h : MapP w g l) (hk : w'.heap[g]? = w.heap[g]?) : MapP w' g l := by
  obtain ⟨es, c, h1, h2⟩ := h
  exact ⟨es, c, hk.trans h1, h2⟩
theorem MapP.lt {w : World} {g : Nat} {l : List Int} (h : MapP w g l) : g < w.heap.size := by
  obtain ⟨es, c, h1, h2⟩ := h
  exact (Array.getElem?_eq_some_iff.1 h1).1
theorem MapP.new (w : World) : MapP (w.alloc (.map #[] 0)) w.heap.size [] := ⟨#[], 0, heap_alloc_new w _, rfl⟩
theorem MapP.look {w : World} {g : Nat} {l : List Int} (h : MapP w g l) (x : Int) : (Instr.lookup 75 (.map (some g)) (.int .i64 x) true).run Tryz.prog w = .ok (.tuple #[.int .i64 (if posI l x < 0 then 0 else posI l x), .bool (decide (0 ≤ posI l x))]) w := by
  obtain ⟨es, c, h1, h2⟩ := h
  have hf : (Instr.findKey 2 (.int .i64 x) es.toList).run Tryz.prog w = .ok (lookI (zipK l 0) x) w := by
    rw [MapKept.run_findKey under2 (findNow_atI x _ es.toList 0 h2)]
    cases lookI (zipK l 0) x <;> simp
  have hz := look_zip l x 0
  cases hr : lookI (zipK l 0) x with
  | none =>
    rw [hr] at hf hz
    have hp : posI l x < 0 := by
      by_cases hp : posI l x < 0
      · exact hp
      · rw [if_neg hp] at hz; cases hz
    have hp2 : decide (0 ≤ posI l x) = false := by simp; omega
    simp [Instr.lookup, run_underlying under70, MapKept.run_getObj_map h1, run_checkKeyI, hf, Result.andThen, hp]
  | some r =>
    rw [hr] at hf hz
    have hp : ¬ posI l x < 0 := by
      intro hp
      rw [if_pos hp] at hz
      cases hz
    rw [if_neg hp] at hz
    have hv : r.2 = .int .i64 (posI l x) := by simpa using hz
    have hp2 : 0 ≤ posI l x := by omega
    simp [Instr.lookup, run_underlying under70, MapKept.run_getObj_map h1, run_checkKeyI, hf, Result.andThen, hp, hp2, hv]
theorem MapP.len {w : World} {g : Nat} {l : List Int} (h : MapP w g l) (ty : TypeId) : (Builtin.len_ #[75] ty #[.map (some g)]).run Tryz.prog w = .ok (.int .i64 (l.length : Int)) w := by
  obtain ⟨es, c, h1, h2⟩ := h
  have hl : es.size = l.length := by
    have := congrArg List.length h2
    simpa [zipK_len] using this
  simp [Builtin.len_, run_underlying under70, MapKept.run_getObj_map h1, goInt, Result.andThen, hl]
theorem MapP.push {w : World} {g : Nat} {l : List Int} (h : MapP w g l) (x : Int) (hn : posI l x < 0) :
    ∃ w', (Instr.mapUpdate 75 (.map (some g)) (.int .i64 x) (.int .i64 (l.length : Int))).run Tryz.prog w = .ok () w' ∧ MapP w' g (l ++ [x]) ∧ w.grownBy w' (some g) ∧ w'.heap.size = w.heap.size := by
  obtain ⟨es, c, h1, h2⟩ := h
  have hf : (Instr.findKey 2 (.int .i64 x) es.toList).run Tryz.prog w = .ok (lookI (zipK l 0) x) w := by
    rw [MapKept.run_findKey under2 (findNow_atI x _ es.toList 0 h2)]
    cases lookI (zipK l 0) x <;> simp
  have hz := look_zip l x 0
  rw [if_pos hn] at hz
  have hr : lookI (zipK l 0) x = none := by
    cases hr : lookI (zipK l 0) x with
    | none => rfl
    | some r => rw [hr] at hz; cases hz
  rw [hr] at hf
  have hg := (Array.getElem?_eq_some_iff.1 h1).1
  refine ⟨{ w with heap := w.heap.setIfInBounds g (.map (es.push { key := .int .i64 x, val := .int .i64 (l.length : Int), born := c }) (c + 1)) }, ?_, ?_, ?_, by simp⟩
  · simp [Instr.mapUpdate, run_underlying under70, MapKept.run_getObj_map h1, run_checkKeyI, hf, MapKept.run_setObj_map _ h1, Result.andThen]
  · refine ⟨es.push { key := .int .i64 x, val := .int .i64 (l.length : Int), born := c }, c + 1, by simp [hg], ?_⟩
    rw [zipK_snoc]
    simp [h2]
  · exact ⟨rfl, rfl, rfl, by simp, fun k _ hk => by simp [Array.getElem?_setIfInBounds]; intro e; exact absurd (by rw [e]) hk⟩
def IM (pm gm : Nat) (l : List Int) (w : World) : Prop := Blk w pm 75 #[.map (some gm)] ∧ MapP w gm l
theorem IM.stay {pm gm : Nat} {l : List Int} {w w' : World} (h : IM pm gm l w) (h1 : w'.heap[gm]? = w.heap[gm]?) (h2 : w'.heap[pm]? = w.heap[pm]?) : IM pm gm l w' := ⟨h2.trans h.1, h.2.stay h1⟩
theorem posI_new {l : List Int} {n : Int} (h : posI l n < 0) : posI (l ++ [n]) n = l.length := by
  refine posI_yes (k := l.length) (x := n) (by simp) rfl fun j z hj hz => ?_
  rw [List.getElem?_append_left hj] at hz
  intro e
  subst e
  have hne : l.findIdx? (· == z) ≠ none := by
    intro h0
    rw [List.findIdx?_eq_none_iff] at h0
    have := h0 z (List.mem_of_getElem? hz)
    simp at this
  unfold posI at h
  cases hf : l.findIdx? (· == z) with
  | none => exact hne hf
  | some k => rw [hf] at h; simp at h; omega
theorem grown_keptQ {w w' : World} {g : Nat} (h : w.grownBy w' (some g)) : KeptQ g w w' := ⟨h.os, h.tape, h.output, h.size, fun b hb hne => h.block b hb (fun e => hne (by injection e))⟩
set_option maxHeartbeats 2000000 in
theorem canon61_any (pm gm : Nat) (t : Tm) (l : List Int) (A : Option Addr) (c : Nat) (w : World) (hpg : pm ≠ gm) (hI : IM pm gm l w) (hk : t.kind = 0) (_hl : l.length ≤ 4000) :
    Calls Tryz.prog 77 #[t.v A c, .pointer (some ⟨pm, 0, none⟩)] w fun e w' => (∃ A3 c3, e = .returned (.agg #[.int .i64 0, .int .i64 (posI (vars1 t l) t.n), .string { data := #[] }, .slice A3 0 c3])) ∧ IM pm gm (vars1 t l) w' ∧ KeptQ gm w w' := by
  obtain ⟨W, HW⟩ : ∃ X, Hid (X = (w.alloc (.cells #[.int .i64 t.kind, .int .i64 t.n, .string t.name, .slice A t.args.length c] 24)).alloc (.cells #[.int .i64 0, .int .i64 0, .string { data := #[] }, .slice none 0 0] 24)) := ⟨_, rfl⟩
  have hbW : Below w.heap.size w W := by rw [HW.out]; exact (bAlloc w _).alloc (by simp) _
  obtain ⟨q, hq⟩ : ∃ q, Hid (q = w.heap.size) := ⟨_, rfl⟩
  obtain ⟨r, hr⟩ : ∃ q, Hid (q = w.heap.size + 1) := ⟨_, rfl⟩
  have hk0 : Blk W q 24 #[.int .i64 t.kind, .int .i64 t.n, .string t.name, .slice A t.args.length c] := by rw [HW.out, hq.out]; exact (Blk.new w _ _).alloc _
  have hk1 : Blk W r 24 #[.int .i64 0, .int .i64 0, .string { data := #[] }, .slice none 0 0] := by
    rw [HW.out, hr.out]
    have h1 := Blk.new (w.alloc (.cells #[.int .i64 t.kind, .int .i64 t.n, .string t.name, .slice A t.args.length c] 24)) 24 #[.int .i64 0, .int .i64 0, .string { data := #[] }, .slice none 0 0]
    rw [World.size_alloc] at h1
    exact h1
  have hIW : IM pm gm l W := hI.stay (hbW.block gm hI.2.lt) (hbW.block pm hI.1.lt)
  have hrw : w.heap.size ≤ r := by rw [hr.out]; omega
  have hgr : gm ≠ r := by have := hI.2.lt; rw [hr.out]; omega
  have hpr : pm ≠ r := by have := hI.1.lt; rw [hr.out]; omega
  have HB := Lib.hid hbW
  have HK := Lib.hid hk
  have HI := Lib.hid hIW
  have HR := Lib.hid hk1
  have e1 := hk0.cell 1
  have el := hk0.lt
  have m0 := hIW.1.cell 0
  have ml := hIW.1.lt
  have hlk := hIW.2.look t.n
  have hln := fun ty => hIW.2.len ty
  simp at e1 m0
  clear hI hbW hk0 hIW hk
  by_cases hp : posI l t.n < 0
  · have hv : vars1 t l = l ++ [t.n] := by unfold vars1; rw [if_pos ⟨by simp [HK.out], hp⟩]
    have HV := Lib.hid hv
    have HPN := Lib.hid (posI_new hp)
    obtain ⟨W', hu, hm', hg', hz'⟩ := HI.out.2.push t.n hp
    have HM' := Lib.hid hm'
    have HKQ := Lib.hid ((KeptQ.of (q := gm) HB.out).trans (grown_keptQ hg'))
    have hr' : Blk W' r 24 #[.int .i64 0, .int .i64 0, .string { data := #[] }, .slice none 0 0] := hk1.grown hg' (fun e => hgr (by injection e))
    have HPM := Lib.hid (show Blk W' pm 75 #[.map (some gm)] from HI.out.1.grown hg' (fun e => hpg (by injection e with e; exact e.symm)))
    have r0 := hr'.cell 0
    have f0 := hr'.frozen 0
    have r1 := hr'.cell 1
    have f1 := hr'.frozen 1
    have r2 := hr'.cell 2
    have f2 := hr'.frozen 2
    have r3 := hr'.cell 3
    have f3 := hr'.frozen 3
    have rl := hr'.lt
    simp at r0 r1 r2 r3
    have hd : decide (0 ≤ posI l t.n) = false := by simp; omega
    rw [if_pos hp, hd] at hlk
    clear hp hd hv hm' hg' hr'
    go_enter Tryz.func77, Tryz.ntmps77
    go_upto_region 1 with fail
    rw [← HW.out, ← hr.out, ← hq.out]
    clear HW
    go_wp2_with fail
    have hfin : KeptQ gm w ((((W'.setCell ⟨r, 0, none⟩ (.int .i64 0)).setCell ⟨r, 1, none⟩ (.int .i64 (l.length : Int))).setCell ⟨r, 2, none⟩ (.string { data := #[] })).setCell ⟨r, 3, none⟩ (.slice none 0 0)) := (((HKQ.out.set hrw _).set hrw _).set hrw _).set hrw _
    rw [HV.out, HPN.out]
    refine bodyPost_ret (v := .agg #[.int .i64 0, .int .i64 (l.length : Int), .string { data := #[] }, .slice none 0 0]) (by simp only [results, Tryz.results77]; go_simp) rfl ⟨⟨none, 0, rfl⟩, ⟨?_, ?_⟩, hfin⟩
    · exact (((HPM.out.far (by simpa using hpr) _).far (by simpa using hpr) _).far (by simpa using hpr) _).far (by simpa using hpr) _
    · refine HM'.out.stay ?_
      repeat rw [heap_setCell_other _ _ _ _ (by simpa using hgr)]
  · have hv : vars1 t l = l := by unfold vars1; rw [if_neg (fun h => hp h.2)]
    have HV := Lib.hid hv
    have hr' := hk1
    have r0 := hr'.cell 0
    have f0 := hr'.frozen 0
    have r1 := hr'.cell 1
    have f1 := hr'.frozen 1
    have r2 := hr'.cell 2
    have f2 := hr'.frozen 2
    have r3 := hr'.cell 3
    have f3 := hr'.frozen 3
    have rl := hr'.lt
    simp at r0 r1 r2 r3
    have hd : decide (0 ≤ posI l t.n) = true := by simp; omega
    rw [if_neg hp, hd] at hlk
    clear hp hd hv hr'
    go_enter Tryz.func77, Tryz.ntmps77
    go_upto_region 1 with fail
    rw [← HW.out, ← hr.out, ← hq.out]
    clear HW
    go_wp2_with fail
    have hfin : KeptQ gm w ((((W.setCell ⟨r, 0, none⟩ (.int .i64 0)).setCell ⟨r, 1, none⟩ (.int .i64 (posI l t.n))).setCell ⟨r, 2, none⟩ (.string { data := #[] })).setCell ⟨r, 3, none⟩ (.slice none 0 0)) := ((((KeptQ.of HB.out).set hrw _).set hrw _).set hrw _).set hrw _
    rw [HV.out]
    refine bodyPost_ret (v := .agg #[.int .i64 0, .int .i64 (posI l t.n), .string { data := #[] }, .slice none 0 0]) (by simp only [results, Tryz.results77]; go_simp) rfl ⟨⟨none, 0, rfl⟩, ⟨?_, ?_⟩, hfin⟩
    · exact (((HI.out.1.far (by simpa using hpr) _).far (by simpa using hpr) _).far (by simpa using hpr) _).far (by simpa using hpr) _
    · refine HI.out.2.stay ?_
      repeat rw [heap_setCell_other _ _ _ _ (by simpa using hgr)]
end Go.Proofs.YtcagaaacfcpoeaaGreat
