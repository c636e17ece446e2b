/-
  The validity of a state: plain; the walk of the program's Valid.
-/
import Derived.Test.YtklpghpfdeojeaaSe
import Derived.Test.YtklpghpfdeojeaaRegN
namespace Go.Proofs.Ytklpghpfdeojeaa
open Go.RowKit

def pairB (x y : G) : Bool := decide (y.id < x.id) && apartB x y
def rowB (s : Sm) (x : G) (l : List G) : Bool := validSt s x && l.all (pairB x)
def rowsTo (s : Sm) : Nat → Bool
  | 0 => true
  | i + 1 => rowsTo s i && (match s.opn[i]? with | some x => rowB s x (s.opn.take i) | none => true)
theorem rowsTo_next {s : Sm} {i : Nat} {x : G} (hx : s.opn[i]? = some x) (h : rowsTo s i = true) : rowsTo s (i + 1) = rowB s x (s.opn.take i) := by simp [rowsTo, h, hx]
theorem rowsTo_mono {s : Sm} {i : Nat} (h : rowsTo s i = false) : ∀ j, rowsTo s (i + j) = false
  | 0 => h
  | j + 1 => by rw [← Nat.add_assoc, rowsTo, rowsTo_mono h j, Bool.false_and]
theorem rowsTo_bad {s : Sm} {i : Nat} {x : G} (hx : s.opn[i]? = some x) (h : rowsTo s i = true) (hb : rowB s x (s.opn.take i) = false) : rowsTo s s.opn.length = false := by
  have h1 := rowsTo_next hx h
  rw [hb] at h1
  have hlt := (List.getElem?_eq_some_iff.1 hx).1
  have := rowsTo_mono h1 (s.opn.length - (i + 1))
  rwa [show i + 1 + (s.opn.length - (i + 1)) = s.opn.length by omega] at this
def modeAt (l : List G) (k : Int) : Int := match l[k.toNat]? with | some x => x.mode | none => 0
def curB (s : Sm) : Bool :=
  decide (0 ≤ idxI s.opn (idP s.inp)) && decide (0 ≤ idxI s.opn (idP s.out)) && modeAt s.opn (idxI s.opn (idP s.inp)) == 1 && !(modeAt s.opn (idxI s.opn (idP s.out)) == 1)
def headB (s : Sm) : Bool := decide ((s.files.length : Int) ≤ 16) && decide ((s.opn.length : Int) ≤ 16) && decide (2 ≤ s.nxt) && decide (s.nxt ≤ 1073741824) && orderedB s.files && standardB s.opn
theorem headB_no {s : Sm} (h : ¬ ((s.files.length : Int) ≤ 16 ∧ (s.opn.length : Int) ≤ 16 ∧ 2 ≤ s.nxt ∧ s.nxt ≤ 1073741824)) : headB s = false := by
  cases hh : headB s
  · rfl
  · exfalso
    simp only [headB, Bool.and_eq_true, decide_eq_true_eq] at hh
    exact h ⟨hh.1.1.1.1.1, hh.1.1.1.1.2, hh.1.1.1.2, hh.1.1.2⟩
def validB (s : Sm) : Bool := headB s && rowsTo s s.opn.length && curB s
theorem all_next {l : List G} {p : G → Bool} {j : Nat} {y : G} (hy : l[j]? = some y) (h : (l.take j).all p = true) : (l.take (j + 1)).all p = p y := by
  rw [List.take_add_one, hy]
  simp only [List.all_append, h, Option.toList, List.all_cons, List.all_nil, Bool.and_true, Bool.true_and]
theorem all_bad {l : List G} {p : G → Bool} {j k : Nat} {y : G} (hjk : j < k) (hy : l[j]? = some y) (h : p y = false) : (l.take k).all p = false := by
  rw [List.all_eq_false]
  refine ⟨y, ?_, by simp [h]⟩
  obtain ⟨hlt, hv⟩ := List.getElem?_eq_some_iff.1 hy
  rw [List.mem_take_iff_getElem]
  exact ⟨j, by omega, hv⟩
theorem smBox {s : Sm} {A0 A1 : Option Addr} {c0 c1 : Nat} {w w1 : World} (h : Blk w1 w.heap.size 25 #[.slice A0 s.files.length c0, .slice A1 s.opn.length c1, .int .i64 s.inp, .int .i64 s.out, .int .i64 s.nxt]) :
    w1.cell? ⟨w.heap.size, 0, none⟩ = some (.slice A0 s.files.length c0) ∧ w1.cell? ⟨w.heap.size, 1, none⟩ = some (.slice A1 s.opn.length c1) ∧ w1.cell? ⟨w.heap.size, 2, none⟩ = some (.int .i64 s.inp) ∧ w1.cell? ⟨w.heap.size, 3, none⟩ = some (.int .i64 s.out) ∧ w1.cell? ⟨w.heap.size, 4, none⟩ = some (.int .i64 s.nxt) := by
  have h0 := h.cell 0
  have h1 := h.cell 1
  have h2 := h.cell 2
  have h3 := h.cell 3
  have h4 := h.cell 4
  simp at h0 h1 h2 h3 h4
  exact ⟨h0, h1, h2, h3, h4⟩
theorem gBox {x : G} {b : Nat} {w1 : World} (h : Blk w1 b 52 #[.int .i64 x.id, .string x.file, .int .i64 x.mode, .int .i64 x.pos, .string x.alias_, .int .i64 x.eof, .bool x.past]) :
    w1.cell? ⟨b, 0, none⟩ = some (.int .i64 x.id) ∧ w1.cell? ⟨b, 1, none⟩ = some (.string x.file) ∧ w1.cell? ⟨b, 2, none⟩ = some (.int .i64 x.mode) ∧ w1.cell? ⟨b, 3, none⟩ = some (.int .i64 x.pos) ∧ w1.cell? ⟨b, 4, none⟩ = some (.string x.alias_) ∧ w1.cell? ⟨b, 5, none⟩ = some (.int .i64 x.eof) ∧ w1.cell? ⟨b, 6, none⟩ = some (.bool x.past) := by
  have h0 := h.cell 0
  have h1 := h.cell 1
  have h2 := h.cell 2
  have h3 := h.cell 3
  have h4 := h.cell 4
  have h5 := h.cell 5
  have h6 := h.cell 6
  simp at h0 h1 h2 h3 h4 h5 h6
  exact ⟨h0, h1, h2, h3, h4, h5, h6⟩

set_option maxRecDepth 20000 in
set_option maxHeartbeats 4000000 in
theorem valid_any (v : Value) (s : Sm) (w : World) (hs : SmAt w w.heap.size v s) :
    Calls Try.prog 13 #[v] w fun e w' => e = .returned (.bool (validB s)) ∧ Below w.heap.size w w' := by
  obtain ⟨A0, c0, A1, c1, rfl, hcap, h0, h1⟩ := hs
  have HA := Lib.hid h0
  have HO := Lib.hid h1
  have HS : Hid (SmAt w w.heap.size (smV A0 A1 c0 c1 s) s) := ⟨A0, c0, A1, c1, rfl, hcap, h0, h1⟩
  have hb0 := bAlloc w (.cells #[.slice A0 s.files.length c0, .slice A1 s.opn.length c1, .int .i64 s.inp, .int .i64 s.out, .int .i64 s.nxt] 25)
  have hk0 : Blk (w.alloc (.cells #[.slice A0 s.files.length c0, .slice A1 s.opn.length c1, .int .i64 s.inp, .int .i64 s.out, .int .i64 s.nxt] 25)) w.heap.size 25 #[.slice A0 s.files.length c0, .slice A1 s.opn.length c1, .int .i64 s.inp, .int .i64 s.out, .int .i64 s.nxt] := Blk.new w 25 _
  have HB0 := Lib.hid hb0
  have HK0 := Lib.hid hk0
  have HD := Lib.hid (show validB s = (headB s && rowsTo s s.opn.length && curB s) from rfl)
  have hfl := h0.1.2
  have hol := h1.1.2
  obtain ⟨⟨hcap0, -⟩, hcap1, -⟩ := hcap
  clear h0 h1 hb0 hk0
  have hcase : 16 < (s.files.length : Int) ∨ ((s.files.length : Int) ≤ 16 ∧ 16 < (s.opn.length : Int)) ∨ ((s.files.length : Int) ≤ 16 ∧ (s.opn.length : Int) ≤ 16 ∧ s.nxt < 2) ∨ ((s.files.length : Int) ≤ 16 ∧ (s.opn.length : Int) ≤ 16 ∧ 2 ≤ s.nxt ∧ 1073741824 < s.nxt) ∨ ((s.files.length : Int) ≤ 16 ∧ (s.opn.length : Int) ≤ 16 ∧ 2 ≤ s.nxt ∧ s.nxt ≤ 1073741824) := by omega
  rcases hcase with g | ⟨g0, g⟩ | ⟨g0, g1, g⟩ | ⟨g0, g1, g2, g⟩ | ⟨g0, g1, g2, g3⟩
  · have d0 : decide (16 < (s.files.length : Int)) = true := by simp; omega
    have HR := Lib.hid (show validB s = false by rw [HD.out, headB_no (by omega)]; rfl)
    clear g
    go_enter Try.func13, Try.ntmps13
    go_wp2
    go_ret
    exact ⟨ret_bool HR.out.symm, HB0.out⟩
  · have d0 : decide (16 < (s.files.length : Int)) = false := by simp; omega
    have d1 : decide (16 < (s.opn.length : Int)) = true := by simp; omega
    have HR := Lib.hid (show validB s = false by rw [HD.out, headB_no (by omega)]; rfl)
    clear g
    go_enter Try.func13, Try.ntmps13
    go_wp2
    go_ret
    exact ⟨ret_bool HR.out.symm, HB0.out⟩
  · have d0 : decide (16 < (s.files.length : Int)) = false := by simp; omega
    have d1 : decide (16 < (s.opn.length : Int)) = false := by simp; omega
    have d2 : decide (s.nxt < 2) = true := by simp; omega
    have HR := Lib.hid (show validB s = false by rw [HD.out, headB_no (by omega)]; rfl)
    clear g
    go_enter Try.func13, Try.ntmps13
    go_wp2
    go_ret
    exact ⟨ret_bool HR.out.symm, HB0.out⟩
  · have d0 : decide (16 < (s.files.length : Int)) = false := by simp; omega
    have d1 : decide (16 < (s.opn.length : Int)) = false := by simp; omega
    have d2 : decide (s.nxt < 2) = false := by simp; omega
    have d3 : decide (1073741824 < s.nxt) = true := by simp; omega
    have HR := Lib.hid (show validB s = false by rw [HD.out, headB_no (by omega)]; rfl)
    clear g
    go_enter Try.func13, Try.ntmps13
    go_wp2
    go_ret
    exact ⟨ret_bool HR.out.symm, HB0.out⟩
  · have d0 : decide (16 < (s.files.length : Int)) = false := by simp; omega
    have d1 : decide (16 < (s.opn.length : Int)) = false := by simp; omega
    have d2 : decide (s.nxt < 2) = false := by simp; omega
    have d3 : decide (1073741824 < s.nxt) = false := by simp; omega
    have HH := Lib.hid (show headB s = (orderedB s.files && standardB s.opn) by simp [headB, g0, g1, g2, g3])
    go_enter Try.func13, Try.ntmps13
    go_wp2_with fail
    refine (ordered_any A0 s.files.length c0 s.files _ (HA.out.next HB0.out)).mono ?_
    rintro e w1 ⟨rfl, hb1⟩
    have HB1 := Lib.hid (bNext HB0.out hb1)
    have HK1 := Lib.hid (HK0.out.next hb1)
    obtain ⟨p0, p1, p2, p3, p4⟩ := smBox HK1.out
    clear hb1
    cases ho : orderedB s.files
    · have HR := Lib.hid (show validB s = false by rw [HD.out, HH.out, ho]; rfl)
      clear ho
      go_wp2
      go_ret
      exact ⟨ret_bool HR.out.symm, HB1.out⟩
    · have HOO := Lib.hid ho
      clear ho
      go_wp2_with fail
      refine (standard_any A1 s.opn.length c1 s.opn _ (HO.out.next HB1.out)).mono ?_
      rintro e w2 ⟨rfl, hb2⟩
      have HB2 := Lib.hid (bNext HB1.out hb2)
      have HK2 := Lib.hid (HK1.out.next hb2)
      clear p0 p1 p2 p3 p4
      obtain ⟨p0, p1, p2, p3, p4⟩ := smBox HK2.out
      clear hb2
      cases hst : standardB s.opn
      · have HR := Lib.hid (show validB s = false by rw [HD.out, HH.out, hst]; simp)
        clear hst
        go_wp2
        go_ret
        exact ⟨ret_bool HR.out.symm, HB2.out⟩
      · have HV := Lib.hid (show validB s = (rowsTo s s.opn.length && curB s) by rw [HD.out, HH.out, HOO.out, hst]; simp)
        clear hst
        go_wp2_with fail
        go_loopw [44] (fun i wr => ∃ k : Nat, k ≤ s.opn.length ∧ i = .int .i64 k ∧ Hid (rowsTo s k = true) ∧ Hid (Below w.heap.size w wr) ∧ Hid (Blk wr w.heap.size 25 #[.slice A0 s.files.length c0, .slice A1 s.opn.length c1, .int .i64 s.inp, .int .i64 s.out, .int .i64 s.nxt])) (fun i _ => s.opn.length - (intOf i).toNat)
        case atStart => exact ⟨0, by omega, rfl, rfl, HB2.out, HK2.out⟩
        case round =>
          obtain ⟨k, hk, rfl, HP, HB, HK⟩ := hrel
          have hz := HB.out.size
          have hwz : w.heap.size < wr.heap.size := HK.out.lt
          obtain ⟨p0, p1, p2, p3, p4⟩ := smBox HK.out
          by_cases hlt : k < s.opn.length
          · obtain ⟨b, off, x, rfl, hb, hx, hx4⟩ := HO.out.at hlt
            obtain ⟨q0, q1, q2, q3, q4, q5, q6⟩ := hx4.below hb HB.out
            have HX := Lib.hid hx
            clear hx hx4
            obtain ⟨V, HVV⟩ : ∃ V, Hid (V = wr.alloc (.cells #[.int .i64 x.id, .string x.file, .int .i64 x.mode, .int .i64 x.pos, .string x.alias_, .int .i64 x.eof, .bool x.past] 52)) := ⟨_, rfl⟩
            obtain ⟨xb, HXB⟩ : ∃ xb, Hid (xb = wr.heap.size) := ⟨_, rfl⟩
            have hbx : Blk V xb 52 #[.int .i64 x.id, .string x.file, .int .i64 x.mode, .int .i64 x.pos, .string x.alias_, .int .i64 x.eof, .bool x.past] := by rw [HVV.out, HXB.out]; exact Blk.new _ _ _
            have hBV : Below wr.heap.size wr V := by rw [HVV.out]; exact bAlloc _ _
            have HBX := Lib.hid hbx
            have HBV := Lib.hid (bNext HB.out hBV)
            have HKV := Lib.hid (HK.out.next hBV)
            have hxz : xb < V.heap.size := hbx.lt
            clear hbx hBV
            by_cases hid0 : x.id < 0
            · have e0 : decide (x.id < 0) = true := by simp; omega
              have hbad : rowB s x (s.opn.take k) = false := by
                have h : ¬ 0 ≤ x.id := by omega
                simp [rowB, validSt, h]
              have HR := Lib.hid (show validB s = false by rw [HV.out, rowsTo_bad HX.out HP.out hbad]; rfl)
              go_wp2
              go_ret
              exact ⟨ret_bool HR.out.symm, HB.out.alloc hz _⟩
            · by_cases hid1 : s.nxt ≤ x.id
              · have e0 : decide (x.id < 0) = false := by simp; omega
                have e1 : decide (s.nxt ≤ x.id) = true := by simp; omega
                have hbad : rowB s x (s.opn.take k) = false := by
                  have h : ¬ x.id < s.nxt := by omega
                  simp [rowB, validSt, h]
                have HR := Lib.hid (show validB s = false by rw [HV.out, rowsTo_bad HX.out HP.out hbad]; rfl)
                go_wp2
                go_ret
                exact ⟨ret_bool HR.out.symm, HB.out.alloc hz _⟩
              · have e0 : decide (x.id < 0) = false := by simp; omega
                have e1 : decide (s.nxt ≤ x.id) = false := by simp; omega
                have hvs : validSt s x = fitsB s x := by
                  have h1 : 0 ≤ x.id := by omega
                  have h2 : x.id < s.nxt := by omega
                  simp [validSt, h1, h2]
                have HVS := Lib.hid hvs
                clear hvs
                go_wp2_with fail
                rw [← HVV.out, ← HXB.out]
                refine (fits_any _ s x V (HS.out.next HBV.out)).mono ?_
                rintro e w4 ⟨rfl, hb4⟩
                have HB4 := Lib.hid (bNext HBV.out hb4)
                have HK4 := Lib.hid (HKV.out.next hb4)
                have HX4 := Lib.hid (HBX.out.next hb4)
                clear hb4
                cases hft : fitsB s x
                · have hbad : rowB s x (s.opn.take k) = false := by simp [rowB, HVS.out, hft]
                  have HR := Lib.hid (show validB s = false by rw [HV.out, rowsTo_bad HX.out HP.out hbad]; rfl)
                  clear hft
                  go_wp2
                  go_ret
                  exact ⟨ret_bool HR.out.symm, HB4.out⟩
                · have HVT := Lib.hid (HVS.out.trans hft)
                  clear hft p0 p1 p2 p3 p4
                  obtain ⟨p0, p1, p2, p3, p4⟩ := smBox HK4.out
                  have hkc : k ≤ c1 := by omega
                  go_wp2_with fail
                  go_loopw [70] (fun j wi => ∃ jj : Nat, jj ≤ k ∧ j = .int .i64 jj ∧ Hid ((s.opn.take jj).all (pairB x) = true) ∧ Hid (Below w.heap.size w wi) ∧ Hid (Blk wi w.heap.size 25 #[.slice A0 s.files.length c0, .slice (some ⟨b, off, none⟩) s.opn.length c1, .int .i64 s.inp, .int .i64 s.out, .int .i64 s.nxt]) ∧ Hid (Blk wi xb 52 #[.int .i64 x.id, .string x.file, .int .i64 x.mode, .int .i64 x.pos, .string x.alias_, .int .i64 x.eof, .bool x.past])) (fun j _ => k - (intOf j).toNat)
                  case atStart => exact ⟨0, by omega, rfl, rfl, HB4.out, HK4.out, HX4.out⟩
                  case round =>
                    obtain ⟨jj, hjk, rfl, HJ, HB5, HK5, HX5⟩ := hrel
                    have hz5 := HB5.out.size
                    have hwz5 : w.heap.size < wr.heap.size := HK5.out.lt
                    have hxz5 : xb < wr.heap.size := HX5.out.lt
                    clear p0 p1 p2 p3 p4 q0 q1 q2 q3 q4 q5 q6
                    obtain ⟨p0, p1, p2, p3, p4⟩ := smBox HK5.out
                    obtain ⟨q0, q1, q2, q3, q4, q5, q6⟩ := gBox HX5.out
                    by_cases hjl : jj < k
                    · obtain ⟨b', off', y, e1, hb', hy, hy4⟩ := HO.out.at (i := jj) (by omega)
                      injection e1 with e1
                      injection e1 with e1 e2
                      subst e1 e2
                      obtain ⟨r0, r1, r2, r3, r4, r5, r6⟩ := hy4.below hb' HB5.out
                      have HY := Lib.hid hy
                      clear hy hy4
                      have HN5 := Lib.hid (HB5.out.alloc hz5 (.cells #[.int .i64 y.id, .string y.file, .int .i64 y.mode, .int .i64 y.pos, .string y.alias_, .int .i64 y.eof, .bool y.past] 52))
                      by_cases hid : y.id < x.id
                      · have e5 : decide (x.id ≤ y.id) = false := by simp; omega
                        go_wp2_with fail
                        refine (apart_any x y _).mono ?_
                        rintro e w6 ⟨rfl, hb6⟩
                        have HB6 := Lib.hid (bNext HN5.out hb6)
                        have HK6 := Lib.hid ((HK5.out.alloc (.cells #[.int .i64 y.id, .string y.file, .int .i64 y.mode, .int .i64 y.pos, .string y.alias_, .int .i64 y.eof, .bool y.past] 52)).next hb6)
                        have HX6 := Lib.hid ((HX5.out.alloc (.cells #[.int .i64 y.id, .string y.file, .int .i64 y.mode, .int .i64 y.pos, .string y.alias_, .int .i64 y.eof, .bool y.past] 52)).next hb6)
                        clear hb6
                        cases hap : apartB x y
                        · have hall : (s.opn.take k).all (pairB x) = false := all_bad hjl HY.out (by simp [pairB, hap])
                          have hbad : rowB s x (s.opn.take k) = false := by rw [rowB, hall, Bool.and_false]
                          have HR := Lib.hid (show validB s = false by rw [HV.out, rowsTo_bad HX.out HP.out hbad]; rfl)
                          clear hap hall hbad
                          go_wp2
                          go_ret
                          exact ⟨ret_bool HR.out.symm, HB6.out⟩
                        · have HJ2 := Lib.hid (show (s.opn.take (jj + 1)).all (pairB x) = true by rw [all_next HY.out HJ.out]; simp [pairB, hap, hid])
                          clear hap
                          go_wp2_with fail
                          exact ⟨⟨jj + 1, by omega, by go_num, HJ2.out, HB6.out, HK6.out, HX6.out⟩, by simp [intOf]; omega⟩
                      · have e5 : decide (x.id ≤ y.id) = true := by simp; omega
                        have hall : (s.opn.take k).all (pairB x) = false := all_bad hjl HY.out (by simp [pairB, hid])
                        have hbad : rowB s x (s.opn.take k) = false := by rw [rowB, hall, Bool.and_false]
                        have HR := Lib.hid (show validB s = false by rw [HV.out, rowsTo_bad HX.out HP.out hbad]; rfl)
                        clear hall hbad
                        go_wp2
                        go_ret
                        exact ⟨ret_bool HR.out.symm, HN5.out⟩
                    · have hjj : jj = k := by omega
                      subst hjj
                      have HP2 := Lib.hid (show rowsTo s (jj + 1) = true by rw [rowsTo_next HX.out HP.out, rowB, HVT.out, HJ.out]; rfl)
                      go_wp2_with fail
                      exact ⟨⟨jj + 1, by omega, by go_num, HP2.out, HB5.out, HK5.out⟩, by simp [intOf]; omega⟩
          · obtain rfl : k = s.opn.length := by omega
            have HVC := Lib.hid (show validB s = curB s by rw [HV.out, HP.out]; rfl)
            go_wp2_with fail
            refine wp_region_N (fun w' => w'.cell? ⟨w.heap.size, 0, none⟩ = some (.slice A0 s.files.length c0) ∧ w'.cell? ⟨w.heap.size, 1, none⟩ = some (.slice A1 s.opn.length c1) ∧ w'.cell? ⟨w.heap.size, 2, none⟩ = some (.int .i64 s.inp) ∧ w'.cell? ⟨w.heap.size, 3, none⟩ = some (.int .i64 s.out) ∧ w'.cell? ⟨w.heap.size, 4, none⟩ = some (.int .i64 s.nxt)) (fun _ => true) (by kernel_rfl) ?_
            have hB0 : Below w.heap.size w wr.drew := bDrewN HB.out 1
            have hK0 : Blk wr.drew w.heap.size 25 #[.slice A0 s.files.length c0, .slice A1 s.opn.length c1, .int .i64 s.inp, .int .i64 s.out, .int .i64 s.nxt] := HK.out
            have hS0 : (fun w' => w'.cell? ⟨w.heap.size, 0, none⟩ = some (.slice A0 s.files.length c0) ∧ w'.cell? ⟨w.heap.size, 1, none⟩ = some (.slice A1 s.opn.length c1) ∧ w'.cell? ⟨w.heap.size, 2, none⟩ = some (.int .i64 s.inp) ∧ w'.cell? ⟨w.heap.size, 3, none⟩ = some (.int .i64 s.out) ∧ w'.cell? ⟨w.heap.size, 4, none⟩ = some (.int .i64 s.nxt)) wr.drew := smBox hK0
            refine wpAnyN_take (i := 0) (v := ?v1) rfl (by kernel_rfl) (by kernel_rfl) (by kernel_rfl) (by kernel_rfl) (fun _ _ _ h => h) (Or.inl ⟨by rfl, ?hy1⟩) (by assumption) ?_
            case hy1 => intro w hSw; (try dsimp only at hSw); go_simp; try with_reducible rfl
            simp only [Act.put, List.getElem_toArray, List.getElem_cons_zero, List.setIfInBounds_toArray, List.set_cons_zero, List.set_cons_succ]
            refine wpAnyN_take (i := 1) (v := ?v2) rfl (by kernel_rfl) (by kernel_rfl) (by kernel_rfl) (by kernel_rfl) (fun _ _ _ h => h) (Or.inl ⟨by rfl, ?hy2⟩) (by assumption) ?_
            case hy2 => intro w hSw; (try dsimp only at hSw); go_simp; try with_reducible rfl
            simp only [Act.put, List.getElem_toArray, List.getElem_cons_zero, List.getElem_cons_succ, List.setIfInBounds_toArray, List.set_cons_zero, List.set_cons_succ]
            refine wpAnyN_take (i := 2) (v := ?v3) rfl (by kernel_rfl) (by kernel_rfl) (by kernel_rfl) (by kernel_rfl) (fun _ _ _ h => h) (Or.inl ⟨by rfl, ?hy3⟩) (by assumption) ?_
            case hy3 => intro w hSw; (try dsimp only at hSw); go_simp; try with_reducible rfl
            simp only [Act.put, List.getElem_toArray, List.getElem_cons_zero, List.getElem_cons_succ, List.setIfInBounds_toArray, List.set_cons_zero, List.set_cons_succ]
            refine wpAnyN_take (i := 4) (v := ?v4) rfl (by kernel_rfl) (by kernel_rfl) (by kernel_rfl) (by kernel_rfl) (fun _ _ _ h => h) (Or.inl ⟨by rfl, ?hy4⟩) (by assumption) ?_
            case hy4 => intro w hSw; (try dsimp only at hSw); go_simp; try with_reducible rfl
            simp only [Act.put, List.getElem_toArray, List.getElem_cons_zero, List.getElem_cons_succ, List.setIfInBounds_toArray, List.set_cons_zero, List.set_cons_succ]
            refine wpAnyN_take (i := 5) (v := ?v5) rfl (by kernel_rfl) (by kernel_rfl) (by kernel_rfl) (by kernel_rfl) (fun _ _ _ h => h) (Or.inl ⟨by rfl, ?hy5⟩) (by assumption) ?_
            case hy5 => intro w hSw; (try dsimp only at hSw); go_simp; try with_reducible rfl
            simp only [Act.put, List.getElem_toArray, List.getElem_cons_zero, List.getElem_cons_succ, List.setIfInBounds_toArray, List.set_cons_zero, List.set_cons_succ]
            refine wpAnyN_take (i := 6) (v := ?v6) rfl (by kernel_rfl) (by kernel_rfl) (by kernel_rfl) (by kernel_rfl) (fun _ _ _ h => h) (Or.inl ⟨by rfl, ?hy6⟩) (by assumption) ?_
            case hy6 => intro w hSw; (try dsimp only at hSw); go_simp; try with_reducible rfl
            simp only [Act.put, List.getElem_toArray, List.getElem_cons_zero, List.getElem_cons_succ, List.setIfInBounds_toArray, List.set_cons_zero, List.set_cons_succ]
            refine wpAnyN_one (i := 3) (by kernel_rfl) rfl (fun K hK => ?_)
            simp only [List.getElem_toArray, List.getElem_cons_zero, List.getElem_cons_succ]
            go_simp
            refine (stream_any _ s s.inp _ (HS.out.next hB0)).mono ?_
            rintro e v1 ⟨rfl, hb1⟩
            have hB1 := bNext hB0 hb1
            have hK1 := hK0.next hb1
            have hS1 : (fun w' => w'.cell? ⟨w.heap.size, 0, none⟩ = some (.slice A0 s.files.length c0) ∧ w'.cell? ⟨w.heap.size, 1, none⟩ = some (.slice A1 s.opn.length c1) ∧ w'.cell? ⟨w.heap.size, 2, none⟩ = some (.int .i64 s.inp) ∧ w'.cell? ⟨w.heap.size, 3, none⟩ = some (.int .i64 s.out) ∧ w'.cell? ⟨w.heap.size, 4, none⟩ = some (.int .i64 s.nxt)) v1 := smBox hK1
            refine hK _ _ (fun _ => hS1) ?_
            refine wpAnyN_one (i := 7) (by kernel_rfl) rfl (fun K hK => ?_)
            simp only [List.getElem_toArray, List.getElem_cons_zero, List.getElem_cons_succ]
            go_simp
            refine (stream_any _ s s.out _ (HS.out.next hB1)).mono ?_
            rintro e v2 ⟨rfl, hb2⟩
            have hB2 := bNext hB1 hb2
            have hK2 := hK1.next hb2
            have hS2 : (fun w' => w'.cell? ⟨w.heap.size, 0, none⟩ = some (.slice A0 s.files.length c0) ∧ w'.cell? ⟨w.heap.size, 1, none⟩ = some (.slice A1 s.opn.length c1) ∧ w'.cell? ⟨w.heap.size, 2, none⟩ = some (.int .i64 s.inp) ∧ w'.cell? ⟨w.heap.size, 3, none⟩ = some (.int .i64 s.out) ∧ w'.cell? ⟨w.heap.size, 4, none⟩ = some (.int .i64 s.nxt)) v2 := smBox hK2
            refine hK _ _ (fun _ => hS2) ?_
            refine wpAnyN_one (i := 8) (by kernel_rfl) rfl (fun K hK => ?_)
            simp only [List.getElem_toArray, List.getElem_cons_zero, List.getElem_cons_succ]
            go_simp
            refine hK _ _ (fun _ => hS2) ?_
            refine wpAnyN_one (i := 9) (by kernel_rfl) rfl (fun K hK => ?_)
            simp only [List.getElem_toArray, List.getElem_cons_zero, List.getElem_cons_succ]
            go_simp
            refine hK _ _ (fun _ => hS2) ?_
            refine wpAnyN_done (by kernel_rfl) ?_ _
            obtain ⟨z0, z1, z2, z3, z4⟩ := smBox hK2
            have HB9 := Lib.hid hB2
            have hcur : curB s = (decide (0 ≤ idxI s.opn (idP s.inp)) && decide (0 ≤ idxI s.opn (idP s.out)) && modeAt s.opn (idxI s.opn (idP s.inp)) == 1 && !(modeAt s.opn (idxI s.opn (idP s.out)) == 1)) := rfl
            clear hS0 hS1 hS2 hB0 hB1 hB2 hK0 hK1 hK2 hb1 hb2 p0 p1 p2 p3 p4
            rcases idxI_cases s.opn (idP s.inp) with ⟨hin, -⟩ | ⟨i, x, hin, hil, hxi, -⟩
            · have HR := Lib.hid (show validB s = false by rw [HVC.out, hcur, hin]; simp)
              rw [hin]
              clear hcur hin
              go_wp2
              go_ret
              exact ⟨ret_bool HR.out.symm, HB9.out⟩
            · rcases idxI_cases s.opn (idP s.out) with ⟨hou, -⟩ | ⟨j, y, hou, hjl, hyj, -⟩
              · have HR := Lib.hid (show validB s = false by rw [HVC.out, hcur, hou]; simp)
                rw [hin, hou]
                clear hcur hin hou
                go_wp2
                go_ret
                exact ⟨ret_bool HR.out.symm, HB9.out⟩
              · have HR := Lib.hid (show validB s = (x.mode == 1 && !(y.mode == 1)) by rw [HVC.out, hcur, hin, hou]; simp [modeAt, hxi, hyj])
                rw [hin, hou]
                obtain ⟨b, off, x', rfl, hb, hx, hx4⟩ := HO.out.at hil
                rw [hxi] at hx
                injection hx with hx
                subst hx
                obtain ⟨b', off', y', e1, hb', hy, hy4⟩ := HO.out.at hjl
                injection e1 with e1
                injection e1 with e1 e2
                subst e1 e2
                rw [hyj] at hy
                injection hy with hy
                subst hy
                obtain ⟨q0, q1, q2, q3, q4, q5, q6⟩ := hx4.below hb HB9.out
                obtain ⟨r0, r1, r2, r3, r4, r5, r6⟩ := hy4.below hb' HB9.out
                clear hcur hin hou hxi hyj hx4 hy4
                go_wp2
                all_goals go_ret
                all_goals refine ⟨ret_bool ?_, HB9.out⟩
                all_goals rw [HR.out]
                all_goals first | (simp [*]; done) | (simp [*]; rfl) | (simp_all; done)
end Go.Proofs.Ytklpghpfdeojeaa
