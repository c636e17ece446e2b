/-
  Walk: Valid of the reference; it is the program's.
-/
import Derived.Test.YtklpghpfdeojeaaSf
import Derived.Deep.Cut
import Derived.Deep.CutBlock
namespace Go.Proofs.Ytklpghpfdeojeaa
open Go.RowKit

/-- the reference's rows: only the stream before is compared by its number -/
def rowR (s : Sm) (i : Nat) (x : G) (l : List G) : Bool := validSt s x && (match i with | 0 => true | m + 1 => match s.opn[m]? with | some z => decide (z.id < x.id) | none => true) && l.all (apartB x)
def rowsR (s : Sm) : Nat → Bool
  | 0 => true
  | i + 1 => rowsR s i && (match s.opn[i]? with | some x => rowR s i x (s.opn.take i) | none => true)
theorem rowsR_next {s : Sm} {i : Nat} {x : G} (hx : s.opn[i]? = some x) (h : rowsR s i = true) : rowsR s (i + 1) = rowR s i x (s.opn.take i) := by simp [rowsR, h, hx]
/-- the numbers ascend in what is valid -/
theorem rowsTo_asc {s : Sm} : ∀ {i : Nat}, rowsR s i = true → i ≤ s.opn.length → ∀ (j k : Nat) y x, j < k → k < i → s.opn[j]? = some y → s.opn[k]? = some x → y.id < x.id
  | 0, _, _, _, _, _, _, _, h, _, _ => absurd h (by omega)
  | i + 1, h, hi, j, k, y, x, hjk, hki, hy, hx => by
    have hx0 : s.opn[i]? = some (s.opn[i]'(by omega)) := List.getElem?_eq_getElem _
    have h1 : rowsR s i = true := by
      rw [rowsR, Bool.and_eq_true] at h; exact h.1
    rcases Nat.lt_or_ge k i with hk | hk
    · exact rowsTo_asc h1 (by omega) j k y x hjk hk hy hx
    · obtain rfl : k = i := by omega
      have h2 := rowsR_next hx0 h1
      rw [h] at h2
      rw [hx] at hx0
      injection hx0 with hx0
      rw [← hx0] at h2
      cases k with
      | zero => omega
      | succ m =>
        have hz : s.opn[m]? = some (s.opn[m]'(by omega)) := List.getElem?_eq_getElem _
        have h3 : s.opn[m].id < x.id := by
          have := h2.symm
          simp only [rowR, hz, Bool.and_eq_true, decide_eq_true_eq] at this
          exact this.1.2
        rcases Nat.lt_or_ge j m with hj | hj
        · have := rowsTo_asc h1 (by omega) j m y _ hj (by omega) hy hz
          omega
        · obtain rfl : j = m := by omega
          rw [hz] at hy
          injection hy with hy
          rw [← hy]; exact h3
theorem rowsR_eq {s : Sm} : ∀ i, i ≤ s.opn.length → rowsR s i = rowsTo s i
  | 0, _ => rfl
  | i + 1, hi => by
    have ih := rowsR_eq (s := s) i (by omega)
    have hx0 : s.opn[i]? = some (s.opn[i]'(by omega)) := List.getElem?_eq_getElem _
    generalize s.opn[i]'(by omega) = x at hx0
    cases hr : rowsR s i
    · rw [rowsR, rowsTo, ← ih, hr]; rfl
    · rw [rowsR_next hx0 hr, rowsTo_next hx0 (ih.symm.trans hr)]
      unfold rowR rowB
      rw [Bool.and_assoc]
      cases validSt s x
      · rfl
      · simp only [Bool.true_and]
        rw [Bool.eq_iff_iff]
        simp only [Bool.and_eq_true, List.all_eq_true]
        constructor
        · rintro ⟨h1, h2⟩ y hy
          obtain ⟨j, hj⟩ := List.mem_iff_getElem?.1 hy
          have hji : j < i := by
            have := (List.getElem?_eq_some_iff.1 hj).1
            simp at this; omega
          rw [List.getElem?_take, if_pos hji] at hj
          have hlt : y.id < x.id := by
            cases i with
            | zero => omega
            | succ m =>
              have hz : s.opn[m]? = some (s.opn[m]'(by omega)) := List.getElem?_eq_getElem _
              have h3 : s.opn[m].id < x.id := by simpa [hz] using h1
              rcases Nat.lt_or_ge j m with hjm | hjm
              · have := rowsTo_asc hr (by omega) j m y _ hjm (by omega) hj hz
                omega
              · obtain rfl : j = m := by omega
                rw [hz] at hj
                injection hj with hj
                rw [← hj]; exact h3
          simp [pairB, hlt, h2 y hy]
        · intro h
          refine ⟨?_, fun y hy => ?_⟩
          · cases i with
            | zero => rfl
            | succ m =>
              have hz : s.opn[m]? = some (s.opn[m]'(by omega)) := List.getElem?_eq_getElem _
              have h3 := h (s.opn[m]'(by omega)) (List.mem_iff_getElem?.2 ⟨m, by rw [List.getElem?_take, if_pos (by omega)]; exact hz⟩)
              simp only [pairB, Bool.and_eq_true, decide_eq_true_eq] at h3
              simp [hz, h3.1]
          · have := h y hy
            simp only [pairB, Bool.and_eq_true] at this
            exact this.2
theorem apartB_eq (x y : G) : apartB x y = if (!x.alias_.toList.isEmpty && eqS x.alias_ y.alias_) = true then false else (!eqS x.file y.file || (!(x.mode != 1) && !(y.mode != 1))) := by simp [apartB, bne]
theorem inS_list : inS.toList = [117, 115, 101, 114, 95, 105, 110, 112, 117, 116] := by decide +kernel
theorem outS_list : outS.toList = [117, 115, 101, 114, 95, 111, 117, 116, 112, 117, 116] := by decide +kernel
theorem two_new (w : World) (t t' : TypeId) (cs cs' : Array Value) : Blk (((w.alloc (.cells cs t)).alloc (.cells cs' t')).drew) w.heap.size t cs ∧ Blk (((w.alloc (.cells cs t)).alloc (.cells cs' t')).drew) (w.heap.size + 1) t' cs' := by
  refine ⟨(Blk.new w t cs).alloc _, ?_⟩
  have h := Blk.new (w.alloc (.cells cs t)) t' cs'
  rwa [World.size_alloc] at h
def allTo (l : List G) (x : G) (n : Nat) : Bool := (l.take n).all (apartB x)
theorem rowsR_bad {s : Sm} {i : Nat} {x : G} (hx : s.opn[i]? = some x) (h : rowsR s i = true) (hb : rowR s i x (s.opn.take i) = false) : rowsTo s s.opn.length = false := by
  have hlt := (List.getElem?_eq_some_iff.1 hx).1
  have h1 := rowsR_next hx h
  rw [hb, rowsR_eq _ (by omega)] at h1
  have := rowsTo_mono h1 (s.opn.length - (i + 1))
  rwa [show i + 1 + (s.opn.length - (i + 1)) = s.opn.length by omega] at this
theorem standard_short {l : List G} (h : (l.length : Int) < 2) : standardB l = false := by
  match l, h with
  | [], _ => rfl
  | [_], _ => rfl
  | _ :: _ :: _, h => simp at h; omega

set_option maxRecDepth 20000 in
set_option maxHeartbeats 8000000 in
theorem rvalid_any (v : Value) (s : Sm) (w : World) (hs : SmAt w w.heap.size v s) :
    Calls Try.prog 28 #[v] w fun e w' => e = .returned (.bool (validB s)) ∧ Below w.heap.size w w' := by
  obtain ⟨A0, c0, A1, c1, rfl, hcap, h0, h1⟩ := hs
  have HA := Lib.hid h0
  have HO := Lib.hid h1
  have HS : Hid (SmAt w w.heap.size (smV A0 A1 c0 c1 s) s) := ⟨A0, c0, A1, c1, rfl, hcap, h0, h1⟩
  have hb0 := bAlloc w (.cells #[.slice A0 s.files.length c0, .slice A1 s.opn.length c1, .int .i64 s.inp, .int .i64 s.out, .int .i64 s.nxt] 25)
  have hk0 : Blk (w.alloc (.cells #[.slice A0 s.files.length c0, .slice A1 s.opn.length c1, .int .i64 s.inp, .int .i64 s.out, .int .i64 s.nxt] 25)) w.heap.size 25 #[.slice A0 s.files.length c0, .slice A1 s.opn.length c1, .int .i64 s.inp, .int .i64 s.out, .int .i64 s.nxt] := Blk.new w 25 _
  have HB0 := Lib.hid hb0
  have HK0 := Lib.hid hk0
  have HD := Lib.hid (show validB s = (headB s && rowsTo s s.opn.length && curB s) from rfl)
  have hfl := h0.1.2
  have hol := h1.1.2
  clear h0 h1 hb0 hk0 hcap
  have hcase : 16 < (s.files.length : Int) ∨ ((s.files.length : Int) ≤ 16 ∧ 16 < (s.opn.length : Int)) ∨ ((s.files.length : Int) ≤ 16 ∧ (s.opn.length : Int) ≤ 16 ∧ (s.opn.length : Int) < 2) ∨ ((s.files.length : Int) ≤ 16 ∧ (s.opn.length : Int) ≤ 16 ∧ 2 ≤ (s.opn.length : Int) ∧ s.nxt < 2) ∨ ((s.files.length : Int) ≤ 16 ∧ (s.opn.length : Int) ≤ 16 ∧ 2 ≤ (s.opn.length : Int) ∧ 2 ≤ s.nxt ∧ 1073741824 < s.nxt) ∨ ((s.files.length : Int) ≤ 16 ∧ (s.opn.length : Int) ≤ 16 ∧ 2 ≤ (s.opn.length : Int) ∧ 2 ≤ s.nxt ∧ s.nxt ≤ 1073741824) := by omega
  rcases hcase with g | ⟨g0, g⟩ | ⟨g0, g1, g⟩ | ⟨g0, g1, gl, g⟩ | ⟨g0, g1, gl, g2, g⟩ | ⟨g0, g1, gl, g2, g3⟩
  · have d0 : decide (16 < (s.files.length : Int)) = true := by simp; omega
    have HR := Lib.hid (show validB s = false by rw [HD.out, headB_no (by omega)]; rfl)
    clear g
    go_enter Try.func28, Try.ntmps28
    go_wp2
    go_ret
    exact ⟨ret_bool HR.out.symm, HB0.out⟩
  · have d0 : decide (16 < (s.files.length : Int)) = false := by simp; omega
    have d1 : decide (16 < (s.opn.length : Int)) = true := by simp; omega
    have HR := Lib.hid (show validB s = false by rw [HD.out, headB_no (by omega)]; rfl)
    clear g
    go_enter Try.func28, Try.ntmps28
    go_wp2
    go_ret
    exact ⟨ret_bool HR.out.symm, HB0.out⟩
  · have d0 : decide (16 < (s.files.length : Int)) = false := by simp; omega
    have d1 : decide (16 < (s.opn.length : Int)) = false := by simp; omega
    have dl : decide ((s.opn.length : Int) < 2) = true := by simp; omega
    have HR := Lib.hid (show validB s = false by rw [HD.out, show headB s = false by rw [headB, standard_short g, Bool.and_false]]; rfl)
    clear g
    go_enter Try.func28, Try.ntmps28
    go_wp2
    go_ret
    exact ⟨ret_bool HR.out.symm, HB0.out⟩
  · have d0 : decide (16 < (s.files.length : Int)) = false := by simp; omega
    have d1 : decide (16 < (s.opn.length : Int)) = false := by simp; omega
    have dl : decide ((s.opn.length : Int) < 2) = false := by simp; omega
    have d2 : decide (s.nxt < 2) = true := by simp; omega
    have HR := Lib.hid (show validB s = false by rw [HD.out, headB_no (by omega)]; rfl)
    clear g
    go_enter Try.func28, Try.ntmps28
    go_wp2
    go_ret
    exact ⟨ret_bool HR.out.symm, HB0.out⟩
  · have d0 : decide (16 < (s.files.length : Int)) = false := by simp; omega
    have d1 : decide (16 < (s.opn.length : Int)) = false := by simp; omega
    have dl : decide ((s.opn.length : Int) < 2) = false := by simp; omega
    have d2 : decide (s.nxt < 2) = false := by simp; omega
    have d3 : decide (1073741824 < s.nxt) = true := by simp; omega
    have HR := Lib.hid (show validB s = false by rw [HD.out, headB_no (by omega)]; rfl)
    clear g
    go_enter Try.func28, Try.ntmps28
    go_wp2
    go_ret
    exact ⟨ret_bool HR.out.symm, HB0.out⟩
  · have d0 : decide (16 < (s.files.length : Int)) = false := by simp; omega
    have d1 : decide (16 < (s.opn.length : Int)) = false := by simp; omega
    have dl : decide ((s.opn.length : Int) < 2) = false := by simp; omega
    have d2 : decide (s.nxt < 2) = false := by simp; omega
    have d3 : decide (1073741824 < s.nxt) = false := by simp; omega
    have HH := Lib.hid (show headB s = (orderedB s.files && standardB s.opn) by simp [headB, g0, g1, g2, g3])
    go_enter Try.func28, Try.ntmps28
    go_wp2_with fail
    refine (validFiles_any A0 s.files.length c0 s.files _ (HA.out.next HB0.out)).mono ?_
    rintro e w1 ⟨rfl, hb1⟩
    have HB1 := Lib.hid (bNext HB0.out hb1)
    have HK1 := Lib.hid (HK0.out.next hb1)
    obtain ⟨p0, p1, p2, p3, p4⟩ := smBox HK1.out
    clear hb1
    cases ho : orderedB s.files
    · have HR := Lib.hid (show validB s = false by rw [HD.out, HH.out, ho]; rfl)
      clear ho
      go_wp2
      go_ret
      exact ⟨ret_bool HR.out.symm, HB1.out⟩
    · have HV := Lib.hid (show validB s = (standardB s.opn && rowsTo s s.opn.length && curB s) by rw [HD.out, HH.out, ho]; simp)
      clear ho
      go_wp2_with fail
      go_loopw [3] (fun i wr => ∃ k : Nat, k ≤ s.opn.length ∧ i = .int .i64 k ∧ Hid (rowsR s k = true) ∧ Hid (Below w.heap.size w wr) ∧ Hid (Blk wr w.heap.size 25 #[.slice A0 s.files.length c0, .slice A1 s.opn.length c1, .int .i64 s.inp, .int .i64 s.out, .int .i64 s.nxt])) (fun i _ => s.opn.length - (intOf i).toNat)
      case atStart => exact ⟨0, by omega, rfl, rfl, HB1.out, HK1.out⟩
      case round =>
        obtain ⟨k, hk, rfl, HP, HB, HK⟩ := hrel
        have hz := HB.out.size
        have hwz : w.heap.size < wr.heap.size := HK.out.lt
        clear p0 p1 p2 p3 p4
        obtain ⟨p0, p1, p2, p3, p4⟩ := smBox HK.out
        by_cases hlt : k < s.opn.length
        · obtain ⟨b, off, x, rfl, hb, hx, hx4⟩ := HO.out.at hlt
          obtain ⟨q0, q1, q2, q3, q4, q5, q6⟩ := hx4.below hb HB.out
          have HX := Lib.hid hx
          clear hx hx4
          obtain ⟨V, HVV⟩ : ∃ V, Hid (V = wr.alloc (.cells #[.int .i64 x.id, .string x.file, .int .i64 x.mode, .int .i64 x.pos, .string x.alias_, .int .i64 x.eof, .bool x.past] 52)) := ⟨_, rfl⟩
          obtain ⟨xb, HXB⟩ : ∃ xb, Hid (xb = wr.heap.size) := ⟨_, rfl⟩
          have hbx : Blk V xb 52 #[.int .i64 x.id, .string x.file, .int .i64 x.mode, .int .i64 x.pos, .string x.alias_, .int .i64 x.eof, .bool x.past] := by rw [HVV.out, HXB.out]; exact Blk.new _ _ _
          have hBV : Below wr.heap.size wr V := by rw [HVV.out]; exact bAlloc _ _
          have HBX := Lib.hid hbx
          have HBV := Lib.hid (bNext HB.out hBV)
          have HKV := Lib.hid (HK.out.next hBV)
          have hxz : xb < V.heap.size := hbx.lt
          have hbV : b < V.heap.size := by have := hBV.size; omega
          have hwV : w.heap.size < V.heap.size := HKV.out.lt
          clear hbx hBV
          cases hvs : validSt s x
          · have hbad : rowR s k x (s.opn.take k) = false := by simp [rowR, hvs]
            have HR := Lib.hid (show validB s = false by rw [HV.out, rowsR_bad HX.out HP.out hbad]; simp)
            clear hbad
            go_wp2_with fail
            rw [← HVV.out, ← HXB.out]
            refine wp_region_N (fun w' => (w'.cell? ⟨w.heap.size, 0, none⟩ = some (.slice A0 s.files.length c0) ∧ w'.cell? ⟨w.heap.size, 1, none⟩ = some (.slice (some ⟨b, off, none⟩) s.opn.length c1) ∧ w'.cell? ⟨w.heap.size, 2, none⟩ = some (.int .i64 s.inp) ∧ w'.cell? ⟨w.heap.size, 3, none⟩ = some (.int .i64 s.out) ∧ w'.cell? ⟨w.heap.size, 4, none⟩ = some (.int .i64 s.nxt)) ∧ (w'.cell? ⟨xb, 0, none⟩ = some (.int .i64 x.id) ∧ w'.cell? ⟨xb, 1, none⟩ = some (.string x.file) ∧ w'.cell? ⟨xb, 2, none⟩ = some (.int .i64 x.mode) ∧ w'.cell? ⟨xb, 3, none⟩ = some (.int .i64 x.pos) ∧ w'.cell? ⟨xb, 4, none⟩ = some (.string x.alias_) ∧ w'.cell? ⟨xb, 5, none⟩ = some (.int .i64 x.eof) ∧ w'.cell? ⟨xb, 6, none⟩ = some (.bool x.past)) ∧ True) (fun _ => true) (by kernel_rfl) ?_
            have hS0 : (fun w' => (w'.cell? ⟨w.heap.size, 0, none⟩ = some (.slice A0 s.files.length c0) ∧ w'.cell? ⟨w.heap.size, 1, none⟩ = some (.slice (some ⟨b, off, none⟩) s.opn.length c1) ∧ w'.cell? ⟨w.heap.size, 2, none⟩ = some (.int .i64 s.inp) ∧ w'.cell? ⟨w.heap.size, 3, none⟩ = some (.int .i64 s.out) ∧ w'.cell? ⟨w.heap.size, 4, none⟩ = some (.int .i64 s.nxt)) ∧ (w'.cell? ⟨xb, 0, none⟩ = some (.int .i64 x.id) ∧ w'.cell? ⟨xb, 1, none⟩ = some (.string x.file) ∧ w'.cell? ⟨xb, 2, none⟩ = some (.int .i64 x.mode) ∧ w'.cell? ⟨xb, 3, none⟩ = some (.int .i64 x.pos) ∧ w'.cell? ⟨xb, 4, none⟩ = some (.string x.alias_) ∧ w'.cell? ⟨xb, 5, none⟩ = some (.int .i64 x.eof) ∧ w'.cell? ⟨xb, 6, none⟩ = some (.bool x.past)) ∧ True) V.drew := ⟨smBox HKV.out, gBox HBX.out, trivial⟩
            refine wpAnyN_take (i := 0) (v := ?v7) rfl (by kernel_rfl) (by kernel_rfl) (by kernel_rfl) (by kernel_rfl) (fun _ _ _ h => h) (Or.inl ⟨by rfl, ?hy7⟩) (by assumption) ?_
            case hy7 => intro w hSw; (try dsimp only at hSw); go_simp; try with_reducible rfl
            simp only [Act.put, List.getElem_toArray, List.getElem_cons_zero, List.setIfInBounds_toArray, List.set_cons_zero, List.set_cons_succ]
            refine wpAnyN_take (i := 1) (v := ?v8) rfl (by kernel_rfl) (by kernel_rfl) (by kernel_rfl) (by kernel_rfl) (fun _ _ _ h => h) (Or.inl ⟨by rfl, ?hy8⟩) (by assumption) ?_
            case hy8 => intro w hSw; (try dsimp only at hSw); go_simp; try with_reducible rfl
            simp only [Act.put, List.getElem_toArray, List.getElem_cons_zero, List.getElem_cons_succ, List.setIfInBounds_toArray, List.set_cons_zero, List.set_cons_succ]
            refine wpAnyN_one (i := 2) (by kernel_rfl) rfl (fun K hK => ?_)
            simp only [List.getElem_toArray, List.getElem_cons_zero, List.getElem_cons_succ]
            go_simp
            have hsd : SmAt V.drew V.drew.heap.size (smV A0 (some ⟨b, off, none⟩) c0 c1 s) s := HS.out.next (bDrewN HBV.out 1)
            refine (validStream_any _ s x V.drew hsd).mono ?_
            rintro e w4 ⟨rfl, hb4⟩
            have hbv4 : Below V.heap.size V w4 := (bDrewN (Below.refl V.heap.size V) 1).trans hb4
            have HB4 := Lib.hid (bNext HBV.out hbv4)
            have HK4 := Lib.hid (HKV.out.next hbv4)
            have HX4 := Lib.hid (HBX.out.next hbv4)
            rw [hvs]
            have hS4 : (fun w' => (w'.cell? ⟨w.heap.size, 0, none⟩ = some (.slice A0 s.files.length c0) ∧ w'.cell? ⟨w.heap.size, 1, none⟩ = some (.slice (some ⟨b, off, none⟩) s.opn.length c1) ∧ w'.cell? ⟨w.heap.size, 2, none⟩ = some (.int .i64 s.inp) ∧ w'.cell? ⟨w.heap.size, 3, none⟩ = some (.int .i64 s.out) ∧ w'.cell? ⟨w.heap.size, 4, none⟩ = some (.int .i64 s.nxt)) ∧ (w'.cell? ⟨xb, 0, none⟩ = some (.int .i64 x.id) ∧ w'.cell? ⟨xb, 1, none⟩ = some (.string x.file) ∧ w'.cell? ⟨xb, 2, none⟩ = some (.int .i64 x.mode) ∧ w'.cell? ⟨xb, 3, none⟩ = some (.int .i64 x.pos) ∧ w'.cell? ⟨xb, 4, none⟩ = some (.string x.alias_) ∧ w'.cell? ⟨xb, 5, none⟩ = some (.int .i64 x.eof) ∧ w'.cell? ⟨xb, 6, none⟩ = some (.bool x.past)) ∧ True) w4 := ⟨smBox HK4.out, gBox HX4.out, trivial⟩
            refine hK _ _ (fun _ => hS4) ?_
            refine wpAnyN_one (i := 3) (by kernel_rfl) rfl (fun K hK => ?_)
            simp only [List.getElem_toArray, List.getElem_cons_zero, List.getElem_cons_succ]
            go_simp
            refine hK _ _ (fun _ => hS4) ?_
            refine wpAnyN_one (i := 4) (by kernel_rfl) rfl (fun K hK => ?_)
            simp only [List.getElem_toArray, List.getElem_cons_zero, List.getElem_cons_succ]
            go_simp
            refine hK _ _ (fun _ => hS4) ?_
            refine wpAnyN_take (i := 5) (v := undef) rfl (by kernel_rfl) (by kernel_rfl) (by kernel_rfl) (by kernel_rfl) (fun _ _ _ h => h) (Or.inr ⟨by rfl, rfl⟩) (by assumption) ?_
            simp only [Act.put, List.getElem_toArray, List.getElem_cons_zero, List.getElem_cons_succ, List.setIfInBounds_toArray, List.set_cons_zero, List.set_cons_succ]
            refine wpAnyN_take (i := 6) (v := undef) rfl (by kernel_rfl) (by kernel_rfl) (by kernel_rfl) (by kernel_rfl) (fun _ _ _ h => h) (Or.inr ⟨by rfl, rfl⟩) (by assumption) ?_
            simp only [Act.put, List.getElem_toArray, List.getElem_cons_zero, List.getElem_cons_succ, List.setIfInBounds_toArray, List.set_cons_zero, List.set_cons_succ]
            refine wpAnyN_take (i := 7) (v := undef) rfl (by kernel_rfl) (by kernel_rfl) (by kernel_rfl) (by kernel_rfl) (fun _ _ _ h => h) (Or.inr ⟨by rfl, rfl⟩) (by assumption) ?_
            simp only [Act.put, List.getElem_toArray, List.getElem_cons_zero, List.getElem_cons_succ, List.setIfInBounds_toArray, List.set_cons_zero, List.set_cons_succ]
            refine wpAnyN_take (i := 8) (v := undef) rfl (by kernel_rfl) (by kernel_rfl) (by kernel_rfl) (by kernel_rfl) (fun _ _ _ h => h) (Or.inr ⟨by rfl, rfl⟩) (by assumption) ?_
            simp only [Act.put, List.getElem_toArray, List.getElem_cons_zero, List.getElem_cons_succ, List.setIfInBounds_toArray, List.set_cons_zero, List.set_cons_succ]
            refine wpAnyN_take (i := 9) (v := undef) rfl (by kernel_rfl) (by kernel_rfl) (by kernel_rfl) (by kernel_rfl) (fun _ _ _ h => h) (Or.inr ⟨by rfl, rfl⟩) (by assumption) ?_
            simp only [Act.put, List.getElem_toArray, List.getElem_cons_zero, List.getElem_cons_succ, List.setIfInBounds_toArray, List.set_cons_zero, List.set_cons_succ]
            refine wpAnyN_take (i := 10) (v := undef) rfl (by kernel_rfl) (by kernel_rfl) (by kernel_rfl) (by kernel_rfl) (fun _ _ _ h => h) (Or.inr ⟨by rfl, rfl⟩) (by assumption) ?_
            simp only [Act.put, List.getElem_toArray, List.getElem_cons_zero, List.getElem_cons_succ, List.setIfInBounds_toArray, List.set_cons_zero, List.set_cons_succ]
            refine wpAnyN_take (i := 11) (v := undef) rfl (by kernel_rfl) (by kernel_rfl) (by kernel_rfl) (by kernel_rfl) (fun _ _ _ h => h) (Or.inr ⟨by rfl, rfl⟩) (by assumption) ?_
            simp only [Act.put, List.getElem_toArray, List.getElem_cons_zero, List.getElem_cons_succ, List.setIfInBounds_toArray, List.set_cons_zero, List.set_cons_succ]
            refine wpAnyN_take (i := 12) (v := undef) rfl (by kernel_rfl) (by kernel_rfl) (by kernel_rfl) (by kernel_rfl) (fun _ _ _ h => h) (Or.inr ⟨by rfl, rfl⟩) (by assumption) ?_
            simp only [Act.put, List.getElem_toArray, List.getElem_cons_zero, List.getElem_cons_succ, List.setIfInBounds_toArray, List.set_cons_zero, List.set_cons_succ]
            refine wpAnyN_take (i := 13) (v := undef) rfl (by kernel_rfl) (by kernel_rfl) (by kernel_rfl) (by kernel_rfl) (fun _ _ _ h => h) (Or.inr ⟨by rfl, rfl⟩) (by assumption) ?_
            simp only [Act.put, List.getElem_toArray, List.getElem_cons_zero, List.getElem_cons_succ, List.setIfInBounds_toArray, List.set_cons_zero, List.set_cons_succ]
            refine wpAnyN_take (i := 14) (v := undef) rfl (by kernel_rfl) (by kernel_rfl) (by kernel_rfl) (by kernel_rfl) (fun _ _ _ h => h) (Or.inr ⟨by rfl, rfl⟩) (by assumption) ?_
            simp only [Act.put, List.getElem_toArray, List.getElem_cons_zero, List.getElem_cons_succ, List.setIfInBounds_toArray, List.set_cons_zero, List.set_cons_succ]
            refine wpAnyN_take (i := 15) (v := undef) rfl (by kernel_rfl) (by kernel_rfl) (by kernel_rfl) (by kernel_rfl) (fun _ _ _ h => h) (Or.inr ⟨by rfl, rfl⟩) (by assumption) ?_
            simp only [Act.put, List.getElem_toArray, List.getElem_cons_zero, List.getElem_cons_succ, List.setIfInBounds_toArray, List.set_cons_zero, List.set_cons_succ]
            refine wpAnyN_take (i := 16) (v := undef) rfl (by kernel_rfl) (by kernel_rfl) (by kernel_rfl) (by kernel_rfl) (fun _ _ _ h => h) (Or.inr ⟨by rfl, rfl⟩) (by assumption) ?_
            simp only [Act.put, List.getElem_toArray, List.getElem_cons_zero, List.getElem_cons_succ, List.setIfInBounds_toArray, List.set_cons_zero, List.set_cons_succ]
            refine wpAnyN_take (i := 17) (v := undef) rfl (by kernel_rfl) (by kernel_rfl) (by kernel_rfl) (by kernel_rfl) (fun _ _ _ h => h) (Or.inr ⟨by rfl, rfl⟩) (by assumption) ?_
            simp only [Act.put, List.getElem_toArray, List.getElem_cons_zero, List.getElem_cons_succ, List.setIfInBounds_toArray, List.set_cons_zero, List.set_cons_succ]
            refine wpAnyN_take (i := 18) (v := undef) rfl (by kernel_rfl) (by kernel_rfl) (by kernel_rfl) (by kernel_rfl) (fun _ _ _ h => h) (Or.inr ⟨by rfl, rfl⟩) (by assumption) ?_
            simp only [Act.put, List.getElem_toArray, List.getElem_cons_zero, List.getElem_cons_succ, List.setIfInBounds_toArray, List.set_cons_zero, List.set_cons_succ]
            refine wpAnyN_one (i := 19) (by kernel_rfl) rfl (fun K hK => ?_)
            simp only [List.getElem_toArray, List.getElem_cons_zero, List.getElem_cons_succ]
            go_simp
            refine hK _ _ (fun _ => hS4) ?_
            refine wpAnyN_done (by kernel_rfl) ?_ _
            clear hS0 hS4 hb4 hbv4 hsd
            go_wp2
            go_ret
            exact ⟨ret_bool HR.out.symm, HB4.out⟩
          · cases k with
            | zero =>
              have hk1 : decide (0 < ((0 : Nat) : Int)) = false := by simp
              simp only [Nat.zero_mul, Nat.add_zero] at q0 q1 q2 q3 q4 q5 q6
              go_wp2_with fail
              rw [← HVV.out, ← HXB.out]
              refine wp_region_N (fun w' => (w'.cell? ⟨w.heap.size, 0, none⟩ = some (.slice A0 s.files.length c0) ∧ w'.cell? ⟨w.heap.size, 1, none⟩ = some (.slice (some ⟨b, off, none⟩) s.opn.length c1) ∧ w'.cell? ⟨w.heap.size, 2, none⟩ = some (.int .i64 s.inp) ∧ w'.cell? ⟨w.heap.size, 3, none⟩ = some (.int .i64 s.out) ∧ w'.cell? ⟨w.heap.size, 4, none⟩ = some (.int .i64 s.nxt)) ∧ (w'.cell? ⟨xb, 0, none⟩ = some (.int .i64 x.id) ∧ w'.cell? ⟨xb, 1, none⟩ = some (.string x.file) ∧ w'.cell? ⟨xb, 2, none⟩ = some (.int .i64 x.mode) ∧ w'.cell? ⟨xb, 3, none⟩ = some (.int .i64 x.pos) ∧ w'.cell? ⟨xb, 4, none⟩ = some (.string x.alias_) ∧ w'.cell? ⟨xb, 5, none⟩ = some (.int .i64 x.eof) ∧ w'.cell? ⟨xb, 6, none⟩ = some (.bool x.past)) ∧ True) (fun _ => true) (by kernel_rfl) ?_
              have hS0 : (fun w' => (w'.cell? ⟨w.heap.size, 0, none⟩ = some (.slice A0 s.files.length c0) ∧ w'.cell? ⟨w.heap.size, 1, none⟩ = some (.slice (some ⟨b, off, none⟩) s.opn.length c1) ∧ w'.cell? ⟨w.heap.size, 2, none⟩ = some (.int .i64 s.inp) ∧ w'.cell? ⟨w.heap.size, 3, none⟩ = some (.int .i64 s.out) ∧ w'.cell? ⟨w.heap.size, 4, none⟩ = some (.int .i64 s.nxt)) ∧ (w'.cell? ⟨xb, 0, none⟩ = some (.int .i64 x.id) ∧ w'.cell? ⟨xb, 1, none⟩ = some (.string x.file) ∧ w'.cell? ⟨xb, 2, none⟩ = some (.int .i64 x.mode) ∧ w'.cell? ⟨xb, 3, none⟩ = some (.int .i64 x.pos) ∧ w'.cell? ⟨xb, 4, none⟩ = some (.string x.alias_) ∧ w'.cell? ⟨xb, 5, none⟩ = some (.int .i64 x.eof) ∧ w'.cell? ⟨xb, 6, none⟩ = some (.bool x.past)) ∧ True) V.drew := ⟨smBox HKV.out, gBox HBX.out, trivial⟩
              refine wpAnyN_take (i := 0) (v := ?v9) rfl (by kernel_rfl) (by kernel_rfl) (by kernel_rfl) (by kernel_rfl) (fun _ _ _ h => h) (Or.inl ⟨by rfl, ?hy9⟩) (by assumption) ?_
              case hy9 => intro w hSw; (try dsimp only at hSw); go_simp; try with_reducible rfl
              simp only [Act.put, List.getElem_toArray, List.getElem_cons_zero, List.setIfInBounds_toArray, List.set_cons_zero, List.set_cons_succ]
              refine wpAnyN_take (i := 1) (v := ?v10) rfl (by kernel_rfl) (by kernel_rfl) (by kernel_rfl) (by kernel_rfl) (fun _ _ _ h => h) (Or.inl ⟨by rfl, ?hy10⟩) (by assumption) ?_
              case hy10 => intro w hSw; (try dsimp only at hSw); go_simp; try with_reducible rfl
              simp only [Act.put, List.getElem_toArray, List.getElem_cons_zero, List.getElem_cons_succ, List.setIfInBounds_toArray, List.set_cons_zero, List.set_cons_succ]
              refine wpAnyN_one (i := 2) (by kernel_rfl) rfl (fun K hK => ?_)
              simp only [List.getElem_toArray, List.getElem_cons_zero, List.getElem_cons_succ]
              go_simp
              have hsd : SmAt V.drew V.drew.heap.size (smV A0 (some ⟨b, off, none⟩) c0 c1 s) s := HS.out.next (bDrewN HBV.out 1)
              refine (validStream_any _ s x V.drew hsd).mono ?_
              rintro e w4 ⟨rfl, hb4⟩
              have hbv4 : Below V.heap.size V w4 := (bDrewN (Below.refl V.heap.size V) 1).trans hb4
              have HB4 := Lib.hid (bNext HBV.out hbv4)
              have HK4 := Lib.hid (HKV.out.next hbv4)
              have HX4 := Lib.hid (HBX.out.next hbv4)
              rw [hvs]
              have hS4 : (fun w' => (w'.cell? ⟨w.heap.size, 0, none⟩ = some (.slice A0 s.files.length c0) ∧ w'.cell? ⟨w.heap.size, 1, none⟩ = some (.slice (some ⟨b, off, none⟩) s.opn.length c1) ∧ w'.cell? ⟨w.heap.size, 2, none⟩ = some (.int .i64 s.inp) ∧ w'.cell? ⟨w.heap.size, 3, none⟩ = some (.int .i64 s.out) ∧ w'.cell? ⟨w.heap.size, 4, none⟩ = some (.int .i64 s.nxt)) ∧ (w'.cell? ⟨xb, 0, none⟩ = some (.int .i64 x.id) ∧ w'.cell? ⟨xb, 1, none⟩ = some (.string x.file) ∧ w'.cell? ⟨xb, 2, none⟩ = some (.int .i64 x.mode) ∧ w'.cell? ⟨xb, 3, none⟩ = some (.int .i64 x.pos) ∧ w'.cell? ⟨xb, 4, none⟩ = some (.string x.alias_) ∧ w'.cell? ⟨xb, 5, none⟩ = some (.int .i64 x.eof) ∧ w'.cell? ⟨xb, 6, none⟩ = some (.bool x.past)) ∧ True) w4 := ⟨smBox HK4.out, gBox HX4.out, trivial⟩
              refine hK _ _ (fun _ => hS4) ?_
              refine wpAnyN_one (i := 3) (by kernel_rfl) rfl (fun K hK => ?_)
              simp only [List.getElem_toArray, List.getElem_cons_zero, List.getElem_cons_succ]
              go_simp
              refine hK _ _ (fun _ => hS4) ?_
              refine wpAnyN_one (i := 4) (by kernel_rfl) rfl (fun K hK => ?_)
              simp only [List.getElem_toArray, List.getElem_cons_zero, List.getElem_cons_succ]
              go_simp
              refine hK _ _ (fun _ => hS4) ?_
              refine wpAnyN_take (i := 5) (v := ?v11) rfl (by kernel_rfl) (by kernel_rfl) (by kernel_rfl) (by kernel_rfl) (fun _ _ _ h => h) (Or.inl ⟨by rfl, ?hy11⟩) (by assumption) ?_
              case hy11 => intro w hSw; (try dsimp only at hSw); go_simp; try with_reducible rfl
              simp only [Act.put, List.getElem_toArray, List.getElem_cons_zero, List.getElem_cons_succ, List.setIfInBounds_toArray, List.set_cons_zero, List.set_cons_succ]
              refine wpAnyN_take (i := 6) (v := ?v12) rfl (by kernel_rfl) (by kernel_rfl) (by kernel_rfl) (by kernel_rfl) (fun _ _ _ h => h) (Or.inl ⟨by rfl, ?hy12⟩) (by assumption) ?_
              case hy12 => intro w hSw; (try dsimp only at hSw); go_simp; try with_reducible rfl
              simp only [Act.put, List.getElem_toArray, List.getElem_cons_zero, List.getElem_cons_succ, List.setIfInBounds_toArray, List.set_cons_zero, List.set_cons_succ]
              refine wpAnyN_take (i := 7) (v := ?v13) rfl (by kernel_rfl) (by kernel_rfl) (by kernel_rfl) (by kernel_rfl) (fun _ _ _ h => h) (Or.inl ⟨by rfl, ?hy13⟩) (by assumption) ?_
              case hy13 => intro w hSw; (try dsimp only at hSw); go_simp; try with_reducible rfl
              simp only [Act.put, List.getElem_toArray, List.getElem_cons_zero, List.getElem_cons_succ, List.setIfInBounds_toArray, List.set_cons_zero, List.set_cons_succ]
              refine wpAnyN_take (i := 8) (v := undef) rfl (by kernel_rfl) (by kernel_rfl) (by kernel_rfl) (by kernel_rfl) (fun _ _ _ h => h) (Or.inr ⟨by rfl, rfl⟩) (by assumption) ?_
              simp only [Act.put, List.getElem_toArray, List.getElem_cons_zero, List.getElem_cons_succ, List.setIfInBounds_toArray, List.set_cons_zero, List.set_cons_succ]
              refine wpAnyN_take (i := 9) (v := undef) rfl (by kernel_rfl) (by kernel_rfl) (by kernel_rfl) (by kernel_rfl) (fun _ _ _ h => h) (Or.inr ⟨by rfl, rfl⟩) (by assumption) ?_
              simp only [Act.put, List.getElem_toArray, List.getElem_cons_zero, List.getElem_cons_succ, List.setIfInBounds_toArray, List.set_cons_zero, List.set_cons_succ]
              refine wpAnyN_take (i := 10) (v := undef) rfl (by kernel_rfl) (by kernel_rfl) (by kernel_rfl) (by kernel_rfl) (fun _ _ _ h => h) (Or.inr ⟨by rfl, rfl⟩) (by assumption) ?_
              simp only [Act.put, List.getElem_toArray, List.getElem_cons_zero, List.getElem_cons_succ, List.setIfInBounds_toArray, List.set_cons_zero, List.set_cons_succ]
              refine wpAnyN_take (i := 11) (v := undef) rfl (by kernel_rfl) (by kernel_rfl) (by kernel_rfl) (by kernel_rfl) (fun _ _ _ h => h) (Or.inr ⟨by rfl, rfl⟩) (by assumption) ?_
              simp only [Act.put, List.getElem_toArray, List.getElem_cons_zero, List.getElem_cons_succ, List.setIfInBounds_toArray, List.set_cons_zero, List.set_cons_succ]
              refine wpAnyN_take (i := 12) (v := undef) rfl (by kernel_rfl) (by kernel_rfl) (by kernel_rfl) (by kernel_rfl) (fun _ _ _ h => h) (Or.inr ⟨by rfl, rfl⟩) (by assumption) ?_
              simp only [Act.put, List.getElem_toArray, List.getElem_cons_zero, List.getElem_cons_succ, List.setIfInBounds_toArray, List.set_cons_zero, List.set_cons_succ]
              refine wpAnyN_take (i := 13) (v := undef) rfl (by kernel_rfl) (by kernel_rfl) (by kernel_rfl) (by kernel_rfl) (fun _ _ _ h => h) (Or.inr ⟨by rfl, rfl⟩) (by assumption) ?_
              simp only [Act.put, List.getElem_toArray, List.getElem_cons_zero, List.getElem_cons_succ, List.setIfInBounds_toArray, List.set_cons_zero, List.set_cons_succ]
              refine wpAnyN_take (i := 14) (v := undef) rfl (by kernel_rfl) (by kernel_rfl) (by kernel_rfl) (by kernel_rfl) (fun _ _ _ h => h) (Or.inr ⟨by rfl, rfl⟩) (by assumption) ?_
              simp only [Act.put, List.getElem_toArray, List.getElem_cons_zero, List.getElem_cons_succ, List.setIfInBounds_toArray, List.set_cons_zero, List.set_cons_succ]
              refine wpAnyN_take (i := 15) (v := undef) rfl (by kernel_rfl) (by kernel_rfl) (by kernel_rfl) (by kernel_rfl) (fun _ _ _ h => h) (Or.inr ⟨by rfl, rfl⟩) (by assumption) ?_
              simp only [Act.put, List.getElem_toArray, List.getElem_cons_zero, List.getElem_cons_succ, List.setIfInBounds_toArray, List.set_cons_zero, List.set_cons_succ]
              refine wpAnyN_take (i := 16) (v := undef) rfl (by kernel_rfl) (by kernel_rfl) (by kernel_rfl) (by kernel_rfl) (fun _ _ _ h => h) (Or.inr ⟨by rfl, rfl⟩) (by assumption) ?_
              simp only [Act.put, List.getElem_toArray, List.getElem_cons_zero, List.getElem_cons_succ, List.setIfInBounds_toArray, List.set_cons_zero, List.set_cons_succ]
              refine wpAnyN_take (i := 17) (v := undef) rfl (by kernel_rfl) (by kernel_rfl) (by kernel_rfl) (by kernel_rfl) (fun _ _ _ h => h) (Or.inr ⟨by rfl, rfl⟩) (by assumption) ?_
              simp only [Act.put, List.getElem_toArray, List.getElem_cons_zero, List.getElem_cons_succ, List.setIfInBounds_toArray, List.set_cons_zero, List.set_cons_succ]
              refine wpAnyN_take (i := 18) (v := ?v14) rfl (by kernel_rfl) (by kernel_rfl) (by kernel_rfl) (by kernel_rfl) (fun _ _ _ h => h) (Or.inl ⟨by rfl, ?hy14⟩) (by assumption) ?_
              case hy14 => intro w hSw; (try dsimp only at hSw); go_simp; try with_reducible rfl
              simp only [Act.put, List.getElem_toArray, List.getElem_cons_zero, List.getElem_cons_succ, List.setIfInBounds_toArray, List.set_cons_zero, List.set_cons_succ]
              refine wpAnyN_one (i := 19) (by kernel_rfl) rfl (fun K hK => ?_)
              simp only [List.getElem_toArray, List.getElem_cons_zero, List.getElem_cons_succ]
              go_simp
              refine hK _ _ (fun _ => hS4) ?_
              refine wpAnyN_done (by kernel_rfl) ?_ _
              clear hS0 hS4 hb4 hbv4 hsd
              have HVT := Lib.hid hvs
              clear hvs
              go_wp2_with fail
              go_loopw [5] (fun j wi => ∃ jj : Nat, jj ≤ 0 ∧ j = .int .i64 jj ∧ Hid (allTo s.opn x jj = true) ∧ Hid (Below w.heap.size w wi) ∧ Hid (Blk wi w.heap.size 25 #[.slice A0 s.files.length c0, .slice (some ⟨b, off, none⟩) s.opn.length c1, .int .i64 s.inp, .int .i64 s.out, .int .i64 s.nxt]) ∧ Hid (Blk wi xb 52 #[.int .i64 x.id, .string x.file, .int .i64 x.mode, .int .i64 x.pos, .string x.alias_, .int .i64 x.eof, .bool x.past])) (fun j _ => 0 - (intOf j).toNat)
              case atStart => exact ⟨0, by omega, rfl, rfl, HB4.out, HK4.out, HX4.out⟩
              case round =>
                obtain ⟨jj, hjk, rfl, HJ, HB5, HK5, HX5⟩ := hrel
                have hz5 := HB5.out.size
                have hwz5 : w.heap.size < wr.heap.size := HK5.out.lt
                have hxz5 : xb < wr.heap.size := HX5.out.lt
                clear p0 p1 p2 p3 p4 q0 q1 q2 q3 q4 q5 q6
                obtain ⟨p0, p1, p2, p3, p4⟩ := smBox HK5.out
                obtain ⟨q0, q1, q2, q3, q4, q5, q6⟩ := gBox HX5.out
                by_cases hjl : jj < 0
                · obtain ⟨b', off', y, e1, hb', hy, hy4⟩ := HO.out.at (i := jj) (by omega)
                  injection e1 with e1
                  injection e1 with e1 e2
                  subst e1 e2
                  obtain ⟨r0, r1, r2, r3, r4, r5, r6⟩ := hy4.below hb' HB5.out
                  have HY := Lib.hid hy
                  clear hy hy4
                  have HN5 := Lib.hid (HB5.out.alloc hz5 (.cells #[.int .i64 y.id, .string y.file, .int .i64 y.mode, .int .i64 y.pos, .string y.alias_, .int .i64 y.eof, .bool y.past] 52))
                  have hret : Hid (apartB x y = false → false = validB s) := fun h => by
                    have hall : (s.opn.take 0).all (apartB x) = false := all_bad hjl HY.out h
                    have hbad : rowR s 0 x (s.opn.take 0) = false := by rw [rowR, hall, Bool.and_false]
                    rw [HV.out, rowsR_bad HX.out HP.out hbad]; simp
                  have hnxt : Hid (apartB x y = true → allTo s.opn x (jj + 1) = true) := fun h => by unfold allTo; rw [all_next HY.out HJ.out]; exact h
                  have HKN := Lib.hid (HK5.out.alloc (.cells #[.int .i64 y.id, .string y.file, .int .i64 y.mode, .int .i64 y.pos, .string y.alias_, .int .i64 y.eof, .bool y.past] 52))
                  have HXN := Lib.hid (HX5.out.alloc (.cells #[.int .i64 y.id, .string y.file, .int .i64 y.mode, .int .i64 y.pos, .string y.alias_, .int .i64 y.eof, .bool y.past] 52))
                  cases hmx : (x.mode != 1) <;> cases hmy : (y.mode != 1)
                  all_goals go_wp2_with fail
                  all_goals first
                    | (go_ret
                       exact ⟨ret_bool (hret.out (by first | (simp [apartB_eq, *]; done) | (simp_all [apartB_eq]; done))), HN5.out⟩)
                    | exact ⟨⟨jj + 1, by omega, by go_num, hnxt.out (by first | (simp [apartB_eq, *]; done) | (simp_all [apartB_eq]; done)), HN5.out, HKN.out, HXN.out⟩, by simp [intOf]; omega⟩
                    | (exfalso
                       have ha1 : ¬ x.alias_.toList = [] := by assumption
                       have ha2 : x.alias_.toList = y.alias_.toList := by assumption
                       have ha3 : y.alias_.toList = [] := by assumption
                       exact ha1 (ha2.trans ha3))
                · have hjj : jj = 0 := by omega
                  subst hjj
                  have HP2 := Lib.hid (show rowsR s (0 + 1) = true by rw [rowsR_next HX.out HP.out]; have h := HJ.out; unfold allTo at h; simp only [rowR, HVT.out, h, Bool.and_true])
                  go_wp2_with fail
                  exact ⟨⟨0 + 1, by omega, by go_num, HP2.out, HB5.out, HK5.out⟩, by simp [intOf]; omega⟩
            | succ m =>
              have hk1 : decide (0 < ((m + 1 : Nat) : Int)) = true := by simp
              obtain ⟨b', off', z, e1, hb', hzz, hz4⟩ := HO.out.at (i := m) (by omega)
              injection e1 with e1
              injection e1 with e1 e2
              subst e1 e2
              have t0 : V.cell? ⟨b, off + m * 7, none⟩ = some (.int .i64 z.id) := (hz4.below hb' HBV.out).1
              have HZ := Lib.hid hzz
              have hmn : m < s.opn.length := by omega
              have hmn2 : (m : Int) < (s.opn.length : Int) := by omega
              have hwm : IntKind.i64.wrap (m : Int) = m := by rw [IntKind.wrap_i64]; omega
              have hwm2 : IntKind.i64.wrap ((m : Int) + 1 - 1) = m := by rw [IntKind.wrap_i64]; omega
              clear hzz hz4
              by_cases hid : z.id < x.id
              · have e5 : decide (x.id ≤ z.id) = false := by simp; omega
                go_wp2_with fail
                rw [← HVV.out, ← HXB.out]
                refine wp_region_N (fun w' => (w'.cell? ⟨w.heap.size, 0, none⟩ = some (.slice A0 s.files.length c0) ∧ w'.cell? ⟨w.heap.size, 1, none⟩ = some (.slice (some ⟨b, off, none⟩) s.opn.length c1) ∧ w'.cell? ⟨w.heap.size, 2, none⟩ = some (.int .i64 s.inp) ∧ w'.cell? ⟨w.heap.size, 3, none⟩ = some (.int .i64 s.out) ∧ w'.cell? ⟨w.heap.size, 4, none⟩ = some (.int .i64 s.nxt)) ∧ (w'.cell? ⟨xb, 0, none⟩ = some (.int .i64 x.id) ∧ w'.cell? ⟨xb, 1, none⟩ = some (.string x.file) ∧ w'.cell? ⟨xb, 2, none⟩ = some (.int .i64 x.mode) ∧ w'.cell? ⟨xb, 3, none⟩ = some (.int .i64 x.pos) ∧ w'.cell? ⟨xb, 4, none⟩ = some (.string x.alias_) ∧ w'.cell? ⟨xb, 5, none⟩ = some (.int .i64 x.eof) ∧ w'.cell? ⟨xb, 6, none⟩ = some (.bool x.past)) ∧ w'.cell? ⟨b, off + m * 7, none⟩ = some (.int .i64 z.id)) (fun _ => true) (by kernel_rfl) ?_
                have hS0 : (fun w' => (w'.cell? ⟨w.heap.size, 0, none⟩ = some (.slice A0 s.files.length c0) ∧ w'.cell? ⟨w.heap.size, 1, none⟩ = some (.slice (some ⟨b, off, none⟩) s.opn.length c1) ∧ w'.cell? ⟨w.heap.size, 2, none⟩ = some (.int .i64 s.inp) ∧ w'.cell? ⟨w.heap.size, 3, none⟩ = some (.int .i64 s.out) ∧ w'.cell? ⟨w.heap.size, 4, none⟩ = some (.int .i64 s.nxt)) ∧ (w'.cell? ⟨xb, 0, none⟩ = some (.int .i64 x.id) ∧ w'.cell? ⟨xb, 1, none⟩ = some (.string x.file) ∧ w'.cell? ⟨xb, 2, none⟩ = some (.int .i64 x.mode) ∧ w'.cell? ⟨xb, 3, none⟩ = some (.int .i64 x.pos) ∧ w'.cell? ⟨xb, 4, none⟩ = some (.string x.alias_) ∧ w'.cell? ⟨xb, 5, none⟩ = some (.int .i64 x.eof) ∧ w'.cell? ⟨xb, 6, none⟩ = some (.bool x.past)) ∧ w'.cell? ⟨b, off + m * 7, none⟩ = some (.int .i64 z.id)) V.drew := ⟨smBox HKV.out, gBox HBX.out, t0⟩
                refine wpAnyN_take (i := 0) (v := ?v15) rfl (by kernel_rfl) (by kernel_rfl) (by kernel_rfl) (by kernel_rfl) (fun _ _ _ h => h) (Or.inl ⟨by rfl, ?hy15⟩) (by assumption) ?_
                case hy15 => intro w hSw; (try dsimp only at hSw); go_simp; try with_reducible rfl
                simp only [Act.put, List.getElem_toArray, List.getElem_cons_zero, List.setIfInBounds_toArray, List.set_cons_zero, List.set_cons_succ]
                refine wpAnyN_take (i := 1) (v := ?v16) rfl (by kernel_rfl) (by kernel_rfl) (by kernel_rfl) (by kernel_rfl) (fun _ _ _ h => h) (Or.inl ⟨by rfl, ?hy16⟩) (by assumption) ?_
                case hy16 => intro w hSw; (try dsimp only at hSw); go_simp; try with_reducible rfl
                simp only [Act.put, List.getElem_toArray, List.getElem_cons_zero, List.getElem_cons_succ, List.setIfInBounds_toArray, List.set_cons_zero, List.set_cons_succ]
                refine wpAnyN_one (i := 2) (by kernel_rfl) rfl (fun K hK => ?_)
                simp only [List.getElem_toArray, List.getElem_cons_zero, List.getElem_cons_succ]
                go_simp
                have hsd : SmAt V.drew V.drew.heap.size (smV A0 (some ⟨b, off, none⟩) c0 c1 s) s := HS.out.next (bDrewN HBV.out 1)
                refine (validStream_any _ s x V.drew hsd).mono ?_
                rintro e w4 ⟨rfl, hb4⟩
                have hbv4 : Below V.heap.size V w4 := (bDrewN (Below.refl V.heap.size V) 1).trans hb4
                have HB4 := Lib.hid (bNext HBV.out hbv4)
                have HK4 := Lib.hid (HKV.out.next hbv4)
                have HX4 := Lib.hid (HBX.out.next hbv4)
                rw [hvs]
                have hS4 : (fun w' => (w'.cell? ⟨w.heap.size, 0, none⟩ = some (.slice A0 s.files.length c0) ∧ w'.cell? ⟨w.heap.size, 1, none⟩ = some (.slice (some ⟨b, off, none⟩) s.opn.length c1) ∧ w'.cell? ⟨w.heap.size, 2, none⟩ = some (.int .i64 s.inp) ∧ w'.cell? ⟨w.heap.size, 3, none⟩ = some (.int .i64 s.out) ∧ w'.cell? ⟨w.heap.size, 4, none⟩ = some (.int .i64 s.nxt)) ∧ (w'.cell? ⟨xb, 0, none⟩ = some (.int .i64 x.id) ∧ w'.cell? ⟨xb, 1, none⟩ = some (.string x.file) ∧ w'.cell? ⟨xb, 2, none⟩ = some (.int .i64 x.mode) ∧ w'.cell? ⟨xb, 3, none⟩ = some (.int .i64 x.pos) ∧ w'.cell? ⟨xb, 4, none⟩ = some (.string x.alias_) ∧ w'.cell? ⟨xb, 5, none⟩ = some (.int .i64 x.eof) ∧ w'.cell? ⟨xb, 6, none⟩ = some (.bool x.past)) ∧ w'.cell? ⟨b, off + m * 7, none⟩ = some (.int .i64 z.id)) w4 := ⟨smBox HK4.out, gBox HX4.out, (hbv4.cell (p := ⟨b, off + m * 7, none⟩) hbV).trans t0⟩
                refine hK _ _ (fun _ => hS4) ?_
                refine wpAnyN_one (i := 3) (by kernel_rfl) rfl (fun K hK => ?_)
                simp only [List.getElem_toArray, List.getElem_cons_zero, List.getElem_cons_succ]
                go_simp
                refine hK _ _ (fun _ => hS4) ?_
                refine wpAnyN_one (i := 4) (by kernel_rfl) rfl (fun K hK => ?_)
                simp only [List.getElem_toArray, List.getElem_cons_zero, List.getElem_cons_succ]
                go_simp
                refine hK _ _ (fun _ => hS4) ?_
                refine wpAnyN_take (i := 5) (v := ?v17) rfl (by kernel_rfl) (by kernel_rfl) (by kernel_rfl) (by kernel_rfl) (fun _ _ _ h => h) (Or.inl ⟨by rfl, ?hy17⟩) (by assumption) ?_
                case hy17 => intro w hSw; (try dsimp only at hSw); go_simp; try with_reducible rfl
                simp only [Act.put, List.getElem_toArray, List.getElem_cons_zero, List.getElem_cons_succ, List.setIfInBounds_toArray, List.set_cons_zero, List.set_cons_succ]
                refine wpAnyN_take (i := 6) (v := ?v18) rfl (by kernel_rfl) (by kernel_rfl) (by kernel_rfl) (by kernel_rfl) (fun _ _ _ h => h) (Or.inl ⟨by rfl, ?hy18⟩) (by assumption) ?_
                case hy18 => intro w hSw; (try dsimp only at hSw); go_simp; try with_reducible rfl
                simp only [Act.put, List.getElem_toArray, List.getElem_cons_zero, List.getElem_cons_succ, List.setIfInBounds_toArray, List.set_cons_zero, List.set_cons_succ]
                refine wpAnyN_take (i := 7) (v := ?v19) rfl (by kernel_rfl) (by kernel_rfl) (by kernel_rfl) (by kernel_rfl) (fun _ _ _ h => h) (Or.inl ⟨by rfl, ?hy19⟩) (by assumption) ?_
                case hy19 => intro w hSw; (try dsimp only at hSw); go_simp; try with_reducible rfl
                simp only [Act.put, List.getElem_toArray, List.getElem_cons_zero, List.getElem_cons_succ, List.setIfInBounds_toArray, List.set_cons_zero, List.set_cons_succ]
                refine wpAnyN_take (i := 8) (v := ?v20) rfl (by kernel_rfl) (by kernel_rfl) (by kernel_rfl) (by kernel_rfl) (fun _ _ _ h => h) (Or.inl ⟨by rfl, ?hy20⟩) (by assumption) ?_
                case hy20 => intro w hSw; (try dsimp only at hSw); go_simp; try with_reducible rfl
                simp only [Act.put, List.getElem_toArray, List.getElem_cons_zero, List.getElem_cons_succ, List.setIfInBounds_toArray, List.set_cons_zero, List.set_cons_succ]
                refine wpAnyN_take (i := 9) (v := ?v21) rfl (by kernel_rfl) (by kernel_rfl) (by kernel_rfl) (by kernel_rfl) (fun _ _ _ h => h) (Or.inl ⟨by rfl, ?hy21⟩) (by assumption) ?_
                case hy21 => intro w hSw; (try dsimp only at hSw); go_simp; try with_reducible rfl
                simp only [Act.put, List.getElem_toArray, List.getElem_cons_zero, List.getElem_cons_succ, List.setIfInBounds_toArray, List.set_cons_zero, List.set_cons_succ]
                refine wpAnyN_take (i := 10) (v := ?v22) rfl (by kernel_rfl) (by kernel_rfl) (by kernel_rfl) (by kernel_rfl) (fun _ _ _ h => h) (Or.inl ⟨by rfl, ?hy22⟩) (by assumption) ?_
                case hy22 => intro w hSw; (try dsimp only at hSw); go_simp; try with_reducible rfl
                simp only [Act.put, List.getElem_toArray, List.getElem_cons_zero, List.getElem_cons_succ, List.setIfInBounds_toArray, List.set_cons_zero, List.set_cons_succ]
                refine wpAnyN_take (i := 11) (v := ?v23) rfl (by kernel_rfl) (by kernel_rfl) (by kernel_rfl) (by kernel_rfl) (fun _ _ _ h => h) (Or.inl ⟨by rfl, ?hy23⟩) (by assumption) ?_
                case hy23 => intro w hSw; (try dsimp only at hSw); go_simp; try with_reducible rfl
                simp only [Act.put, List.getElem_toArray, List.getElem_cons_zero, List.getElem_cons_succ, List.setIfInBounds_toArray, List.set_cons_zero, List.set_cons_succ]
                refine wpAnyN_take (i := 12) (v := ?v24) rfl (by kernel_rfl) (by kernel_rfl) (by kernel_rfl) (by kernel_rfl) (fun _ _ _ h => h) (Or.inl ⟨by rfl, ?hy24⟩) (by assumption) ?_
                case hy24 => intro w hSw; (try dsimp only at hSw); go_simp; try with_reducible rfl
                simp only [Act.put, List.getElem_toArray, List.getElem_cons_zero, List.getElem_cons_succ, List.setIfInBounds_toArray, List.set_cons_zero, List.set_cons_succ]
                refine wpAnyN_take (i := 13) (v := ?v25) rfl (by kernel_rfl) (by kernel_rfl) (by kernel_rfl) (by kernel_rfl) (fun _ _ _ h => h) (Or.inl ⟨by rfl, ?hy25⟩) (by assumption) ?_
                case hy25 => intro w hSw; (try dsimp only at hSw); go_simp; try with_reducible rfl
                simp only [Act.put, List.getElem_toArray, List.getElem_cons_zero, List.getElem_cons_succ, List.setIfInBounds_toArray, List.set_cons_zero, List.set_cons_succ]
                refine wpAnyN_take (i := 14) (v := ?v26) rfl (by kernel_rfl) (by kernel_rfl) (by kernel_rfl) (by kernel_rfl) (fun _ _ _ h => h) (Or.inl ⟨by rfl, ?hy26⟩) (by assumption) ?_
                case hy26 => intro w hSw; (try dsimp only at hSw); go_simp; try with_reducible rfl
                simp only [Act.put, List.getElem_toArray, List.getElem_cons_zero, List.getElem_cons_succ, List.setIfInBounds_toArray, List.set_cons_zero, List.set_cons_succ]
                refine wpAnyN_take (i := 15) (v := ?v27) rfl (by kernel_rfl) (by kernel_rfl) (by kernel_rfl) (by kernel_rfl) (fun _ _ _ h => h) (Or.inl ⟨by rfl, ?hy27⟩) (by assumption) ?_
                case hy27 => intro w hSw; (try dsimp only at hSw); go_simp; try with_reducible rfl
                simp only [Act.put, List.getElem_toArray, List.getElem_cons_zero, List.getElem_cons_succ, List.setIfInBounds_toArray, List.set_cons_zero, List.set_cons_succ]
                refine wpAnyN_take (i := 16) (v := ?v28) rfl (by kernel_rfl) (by kernel_rfl) (by kernel_rfl) (by kernel_rfl) (fun _ _ _ h => h) (Or.inl ⟨by rfl, ?hy28⟩) (by assumption) ?_
                case hy28 => intro w hSw; (try dsimp only at hSw); go_simp; try with_reducible rfl
                simp only [Act.put, List.getElem_toArray, List.getElem_cons_zero, List.getElem_cons_succ, List.setIfInBounds_toArray, List.set_cons_zero, List.set_cons_succ]
                refine wpAnyN_take (i := 17) (v := ?v29) rfl (by kernel_rfl) (by kernel_rfl) (by kernel_rfl) (by kernel_rfl) (fun _ _ _ h => h) (Or.inl ⟨by rfl, ?hy29⟩) (by assumption) ?_
                case hy29 => intro w hSw; (try dsimp only at hSw); go_simp; try with_reducible rfl
                simp only [Act.put, List.getElem_toArray, List.getElem_cons_zero, List.getElem_cons_succ, List.setIfInBounds_toArray, List.set_cons_zero, List.set_cons_succ]
                refine wpAnyN_take (i := 18) (v := ?v30) rfl (by kernel_rfl) (by kernel_rfl) (by kernel_rfl) (by kernel_rfl) (fun _ _ _ h => h) (Or.inl ⟨by rfl, ?hy30⟩) (by assumption) ?_
                case hy30 => intro w hSw; (try dsimp only at hSw); go_simp; try with_reducible rfl
                simp only [Act.put, List.getElem_toArray, List.getElem_cons_zero, List.getElem_cons_succ, List.setIfInBounds_toArray, List.set_cons_zero, List.set_cons_succ]
                refine wpAnyN_one (i := 19) (by kernel_rfl) rfl (fun K hK => ?_)
                simp only [List.getElem_toArray, List.getElem_cons_zero, List.getElem_cons_succ]
                go_simp
                refine hK _ _ (fun _ => hS4) ?_
                refine wpAnyN_done (by kernel_rfl) ?_ _
                clear hS0 hS4 hb4 hbv4 hsd
                have HVT := Lib.hid hvs
                clear hvs
                go_wp2_with fail
                go_loopw [5] (fun j wi => ∃ jj : Nat, jj ≤ (m + 1) ∧ j = .int .i64 jj ∧ Hid (allTo s.opn x jj = true) ∧ Hid (Below w.heap.size w wi) ∧ Hid (Blk wi w.heap.size 25 #[.slice A0 s.files.length c0, .slice (some ⟨b, off, none⟩) s.opn.length c1, .int .i64 s.inp, .int .i64 s.out, .int .i64 s.nxt]) ∧ Hid (Blk wi xb 52 #[.int .i64 x.id, .string x.file, .int .i64 x.mode, .int .i64 x.pos, .string x.alias_, .int .i64 x.eof, .bool x.past])) (fun j _ => (m + 1) - (intOf j).toNat)
                case atStart => exact ⟨0, by omega, rfl, rfl, HB4.out, HK4.out, HX4.out⟩
                case round =>
                  obtain ⟨jj, hjk, rfl, HJ, HB5, HK5, HX5⟩ := hrel
                  have hz5 := HB5.out.size
                  have hwz5 : w.heap.size < wr.heap.size := HK5.out.lt
                  have hxz5 : xb < wr.heap.size := HX5.out.lt
                  clear p0 p1 p2 p3 p4 q0 q1 q2 q3 q4 q5 q6
                  obtain ⟨p0, p1, p2, p3, p4⟩ := smBox HK5.out
                  obtain ⟨q0, q1, q2, q3, q4, q5, q6⟩ := gBox HX5.out
                  by_cases hjl : jj < (m + 1)
                  · obtain ⟨b', off', y, e1, hb', hy, hy4⟩ := HO.out.at (i := jj) (by omega)
                    injection e1 with e1
                    injection e1 with e1 e2
                    subst e1 e2
                    obtain ⟨r0, r1, r2, r3, r4, r5, r6⟩ := hy4.below hb' HB5.out
                    have HY := Lib.hid hy
                    clear hy hy4
                    have HN5 := Lib.hid (HB5.out.alloc hz5 (.cells #[.int .i64 y.id, .string y.file, .int .i64 y.mode, .int .i64 y.pos, .string y.alias_, .int .i64 y.eof, .bool y.past] 52))
                    have hret : Hid (apartB x y = false → false = validB s) := fun h => by
                      have hall : (s.opn.take (m + 1)).all (apartB x) = false := all_bad hjl HY.out h
                      have hbad : rowR s (m + 1) x (s.opn.take (m + 1)) = false := by rw [rowR, hall, Bool.and_false]
                      rw [HV.out, rowsR_bad HX.out HP.out hbad]; simp
                    have hnxt : Hid (apartB x y = true → allTo s.opn x (jj + 1) = true) := fun h => by unfold allTo; rw [all_next HY.out HJ.out]; exact h
                    have HKN := Lib.hid (HK5.out.alloc (.cells #[.int .i64 y.id, .string y.file, .int .i64 y.mode, .int .i64 y.pos, .string y.alias_, .int .i64 y.eof, .bool y.past] 52))
                    have HXN := Lib.hid (HX5.out.alloc (.cells #[.int .i64 y.id, .string y.file, .int .i64 y.mode, .int .i64 y.pos, .string y.alias_, .int .i64 y.eof, .bool y.past] 52))
                    cases hmx : (x.mode != 1) <;> cases hmy : (y.mode != 1)
                    all_goals go_wp2_with fail
                    all_goals first
                      | (go_ret
                         exact ⟨ret_bool (hret.out (by first | (simp [apartB_eq, *]; done) | (simp_all [apartB_eq]; done))), HN5.out⟩)
                      | exact ⟨⟨jj + 1, by omega, by go_num, hnxt.out (by first | (simp [apartB_eq, *]; done) | (simp_all [apartB_eq]; done)), HN5.out, HKN.out, HXN.out⟩, by simp [intOf]; omega⟩
                      | (exfalso
                         have ha1 : ¬ x.alias_.toList = [] := by assumption
                         have ha2 : x.alias_.toList = y.alias_.toList := by assumption
                         have ha3 : y.alias_.toList = [] := by assumption
                         exact ha1 (ha2.trans ha3))
                  · have hjj : jj = (m + 1) := by omega
                    subst hjj
                    have HP2 := Lib.hid (show rowsR s ((m + 1) + 1) = true by rw [rowsR_next HX.out HP.out]; have h := HJ.out; unfold allTo at h; simp only [rowR, HVT.out, h, HZ.out, hid, Bool.and_true, decide_true])
                    go_wp2_with fail
                    exact ⟨⟨(m + 1) + 1, by omega, by go_num, HP2.out, HB5.out, HK5.out⟩, by simp [intOf]; omega⟩
              · have e5 : decide (x.id ≤ z.id) = true := by simp; omega
                have hbad : rowR s (m + 1) x (s.opn.take (m + 1)) = false := by simp [rowR, HZ.out, hid]
                have HR := Lib.hid (show validB s = false by rw [HV.out, rowsR_bad HX.out HP.out hbad]; simp)
                clear hbad
                go_wp2_with fail
                rw [← HVV.out, ← HXB.out]
                refine wp_region_N (fun w' => (w'.cell? ⟨w.heap.size, 0, none⟩ = some (.slice A0 s.files.length c0) ∧ w'.cell? ⟨w.heap.size, 1, none⟩ = some (.slice (some ⟨b, off, none⟩) s.opn.length c1) ∧ w'.cell? ⟨w.heap.size, 2, none⟩ = some (.int .i64 s.inp) ∧ w'.cell? ⟨w.heap.size, 3, none⟩ = some (.int .i64 s.out) ∧ w'.cell? ⟨w.heap.size, 4, none⟩ = some (.int .i64 s.nxt)) ∧ (w'.cell? ⟨xb, 0, none⟩ = some (.int .i64 x.id) ∧ w'.cell? ⟨xb, 1, none⟩ = some (.string x.file) ∧ w'.cell? ⟨xb, 2, none⟩ = some (.int .i64 x.mode) ∧ w'.cell? ⟨xb, 3, none⟩ = some (.int .i64 x.pos) ∧ w'.cell? ⟨xb, 4, none⟩ = some (.string x.alias_) ∧ w'.cell? ⟨xb, 5, none⟩ = some (.int .i64 x.eof) ∧ w'.cell? ⟨xb, 6, none⟩ = some (.bool x.past)) ∧ w'.cell? ⟨b, off + m * 7, none⟩ = some (.int .i64 z.id)) (fun _ => true) (by kernel_rfl) ?_
                have hS0 : (fun w' => (w'.cell? ⟨w.heap.size, 0, none⟩ = some (.slice A0 s.files.length c0) ∧ w'.cell? ⟨w.heap.size, 1, none⟩ = some (.slice (some ⟨b, off, none⟩) s.opn.length c1) ∧ w'.cell? ⟨w.heap.size, 2, none⟩ = some (.int .i64 s.inp) ∧ w'.cell? ⟨w.heap.size, 3, none⟩ = some (.int .i64 s.out) ∧ w'.cell? ⟨w.heap.size, 4, none⟩ = some (.int .i64 s.nxt)) ∧ (w'.cell? ⟨xb, 0, none⟩ = some (.int .i64 x.id) ∧ w'.cell? ⟨xb, 1, none⟩ = some (.string x.file) ∧ w'.cell? ⟨xb, 2, none⟩ = some (.int .i64 x.mode) ∧ w'.cell? ⟨xb, 3, none⟩ = some (.int .i64 x.pos) ∧ w'.cell? ⟨xb, 4, none⟩ = some (.string x.alias_) ∧ w'.cell? ⟨xb, 5, none⟩ = some (.int .i64 x.eof) ∧ w'.cell? ⟨xb, 6, none⟩ = some (.bool x.past)) ∧ w'.cell? ⟨b, off + m * 7, none⟩ = some (.int .i64 z.id)) V.drew := ⟨smBox HKV.out, gBox HBX.out, t0⟩
                refine wpAnyN_take (i := 0) (v := ?v31) rfl (by kernel_rfl) (by kernel_rfl) (by kernel_rfl) (by kernel_rfl) (fun _ _ _ h => h) (Or.inl ⟨by rfl, ?hy31⟩) (by assumption) ?_
                case hy31 => intro w hSw; (try dsimp only at hSw); go_simp; try with_reducible rfl
                simp only [Act.put, List.getElem_toArray, List.getElem_cons_zero, List.setIfInBounds_toArray, List.set_cons_zero, List.set_cons_succ]
                refine wpAnyN_take (i := 1) (v := ?v32) rfl (by kernel_rfl) (by kernel_rfl) (by kernel_rfl) (by kernel_rfl) (fun _ _ _ h => h) (Or.inl ⟨by rfl, ?hy32⟩) (by assumption) ?_
                case hy32 => intro w hSw; (try dsimp only at hSw); go_simp; try with_reducible rfl
                simp only [Act.put, List.getElem_toArray, List.getElem_cons_zero, List.getElem_cons_succ, List.setIfInBounds_toArray, List.set_cons_zero, List.set_cons_succ]
                refine wpAnyN_one (i := 2) (by kernel_rfl) rfl (fun K hK => ?_)
                simp only [List.getElem_toArray, List.getElem_cons_zero, List.getElem_cons_succ]
                go_simp
                have hsd : SmAt V.drew V.drew.heap.size (smV A0 (some ⟨b, off, none⟩) c0 c1 s) s := HS.out.next (bDrewN HBV.out 1)
                refine (validStream_any _ s x V.drew hsd).mono ?_
                rintro e w4 ⟨rfl, hb4⟩
                have hbv4 : Below V.heap.size V w4 := (bDrewN (Below.refl V.heap.size V) 1).trans hb4
                have HB4 := Lib.hid (bNext HBV.out hbv4)
                have HK4 := Lib.hid (HKV.out.next hbv4)
                have HX4 := Lib.hid (HBX.out.next hbv4)
                rw [hvs]
                have hS4 : (fun w' => (w'.cell? ⟨w.heap.size, 0, none⟩ = some (.slice A0 s.files.length c0) ∧ w'.cell? ⟨w.heap.size, 1, none⟩ = some (.slice (some ⟨b, off, none⟩) s.opn.length c1) ∧ w'.cell? ⟨w.heap.size, 2, none⟩ = some (.int .i64 s.inp) ∧ w'.cell? ⟨w.heap.size, 3, none⟩ = some (.int .i64 s.out) ∧ w'.cell? ⟨w.heap.size, 4, none⟩ = some (.int .i64 s.nxt)) ∧ (w'.cell? ⟨xb, 0, none⟩ = some (.int .i64 x.id) ∧ w'.cell? ⟨xb, 1, none⟩ = some (.string x.file) ∧ w'.cell? ⟨xb, 2, none⟩ = some (.int .i64 x.mode) ∧ w'.cell? ⟨xb, 3, none⟩ = some (.int .i64 x.pos) ∧ w'.cell? ⟨xb, 4, none⟩ = some (.string x.alias_) ∧ w'.cell? ⟨xb, 5, none⟩ = some (.int .i64 x.eof) ∧ w'.cell? ⟨xb, 6, none⟩ = some (.bool x.past)) ∧ w'.cell? ⟨b, off + m * 7, none⟩ = some (.int .i64 z.id)) w4 := ⟨smBox HK4.out, gBox HX4.out, (hbv4.cell (p := ⟨b, off + m * 7, none⟩) hbV).trans t0⟩
                refine hK _ _ (fun _ => hS4) ?_
                refine wpAnyN_one (i := 3) (by kernel_rfl) rfl (fun K hK => ?_)
                simp only [List.getElem_toArray, List.getElem_cons_zero, List.getElem_cons_succ]
                go_simp
                refine hK _ _ (fun _ => hS4) ?_
                refine wpAnyN_one (i := 4) (by kernel_rfl) rfl (fun K hK => ?_)
                simp only [List.getElem_toArray, List.getElem_cons_zero, List.getElem_cons_succ]
                go_simp
                refine hK _ _ (fun _ => hS4) ?_
                refine wpAnyN_take (i := 5) (v := ?v33) rfl (by kernel_rfl) (by kernel_rfl) (by kernel_rfl) (by kernel_rfl) (fun _ _ _ h => h) (Or.inl ⟨by rfl, ?hy33⟩) (by assumption) ?_
                case hy33 => intro w hSw; (try dsimp only at hSw); go_simp; try with_reducible rfl
                simp only [Act.put, List.getElem_toArray, List.getElem_cons_zero, List.getElem_cons_succ, List.setIfInBounds_toArray, List.set_cons_zero, List.set_cons_succ]
                refine wpAnyN_take (i := 6) (v := ?v34) rfl (by kernel_rfl) (by kernel_rfl) (by kernel_rfl) (by kernel_rfl) (fun _ _ _ h => h) (Or.inl ⟨by rfl, ?hy34⟩) (by assumption) ?_
                case hy34 => intro w hSw; (try dsimp only at hSw); go_simp; try with_reducible rfl
                simp only [Act.put, List.getElem_toArray, List.getElem_cons_zero, List.getElem_cons_succ, List.setIfInBounds_toArray, List.set_cons_zero, List.set_cons_succ]
                refine wpAnyN_take (i := 7) (v := ?v35) rfl (by kernel_rfl) (by kernel_rfl) (by kernel_rfl) (by kernel_rfl) (fun _ _ _ h => h) (Or.inl ⟨by rfl, ?hy35⟩) (by assumption) ?_
                case hy35 => intro w hSw; (try dsimp only at hSw); go_simp; try with_reducible rfl
                simp only [Act.put, List.getElem_toArray, List.getElem_cons_zero, List.getElem_cons_succ, List.setIfInBounds_toArray, List.set_cons_zero, List.set_cons_succ]
                refine wpAnyN_take (i := 8) (v := ?v36) rfl (by kernel_rfl) (by kernel_rfl) (by kernel_rfl) (by kernel_rfl) (fun _ _ _ h => h) (Or.inl ⟨by rfl, ?hy36⟩) (by assumption) ?_
                case hy36 => intro w hSw; (try dsimp only at hSw); go_simp; try with_reducible rfl
                simp only [Act.put, List.getElem_toArray, List.getElem_cons_zero, List.getElem_cons_succ, List.setIfInBounds_toArray, List.set_cons_zero, List.set_cons_succ]
                refine wpAnyN_take (i := 9) (v := ?v37) rfl (by kernel_rfl) (by kernel_rfl) (by kernel_rfl) (by kernel_rfl) (fun _ _ _ h => h) (Or.inl ⟨by rfl, ?hy37⟩) (by assumption) ?_
                case hy37 => intro w hSw; (try dsimp only at hSw); go_simp; try with_reducible rfl
                simp only [Act.put, List.getElem_toArray, List.getElem_cons_zero, List.getElem_cons_succ, List.setIfInBounds_toArray, List.set_cons_zero, List.set_cons_succ]
                refine wpAnyN_take (i := 10) (v := ?v38) rfl (by kernel_rfl) (by kernel_rfl) (by kernel_rfl) (by kernel_rfl) (fun _ _ _ h => h) (Or.inl ⟨by rfl, ?hy38⟩) (by assumption) ?_
                case hy38 => intro w hSw; (try dsimp only at hSw); go_simp; try with_reducible rfl
                simp only [Act.put, List.getElem_toArray, List.getElem_cons_zero, List.getElem_cons_succ, List.setIfInBounds_toArray, List.set_cons_zero, List.set_cons_succ]
                refine wpAnyN_take (i := 11) (v := ?v39) rfl (by kernel_rfl) (by kernel_rfl) (by kernel_rfl) (by kernel_rfl) (fun _ _ _ h => h) (Or.inl ⟨by rfl, ?hy39⟩) (by assumption) ?_
                case hy39 => intro w hSw; (try dsimp only at hSw); go_simp; try with_reducible rfl
                simp only [Act.put, List.getElem_toArray, List.getElem_cons_zero, List.getElem_cons_succ, List.setIfInBounds_toArray, List.set_cons_zero, List.set_cons_succ]
                refine wpAnyN_take (i := 12) (v := ?v40) rfl (by kernel_rfl) (by kernel_rfl) (by kernel_rfl) (by kernel_rfl) (fun _ _ _ h => h) (Or.inl ⟨by rfl, ?hy40⟩) (by assumption) ?_
                case hy40 => intro w hSw; (try dsimp only at hSw); go_simp; try with_reducible rfl
                simp only [Act.put, List.getElem_toArray, List.getElem_cons_zero, List.getElem_cons_succ, List.setIfInBounds_toArray, List.set_cons_zero, List.set_cons_succ]
                refine wpAnyN_take (i := 13) (v := ?v41) rfl (by kernel_rfl) (by kernel_rfl) (by kernel_rfl) (by kernel_rfl) (fun _ _ _ h => h) (Or.inl ⟨by rfl, ?hy41⟩) (by assumption) ?_
                case hy41 => intro w hSw; (try dsimp only at hSw); go_simp; try with_reducible rfl
                simp only [Act.put, List.getElem_toArray, List.getElem_cons_zero, List.getElem_cons_succ, List.setIfInBounds_toArray, List.set_cons_zero, List.set_cons_succ]
                refine wpAnyN_take (i := 14) (v := ?v42) rfl (by kernel_rfl) (by kernel_rfl) (by kernel_rfl) (by kernel_rfl) (fun _ _ _ h => h) (Or.inl ⟨by rfl, ?hy42⟩) (by assumption) ?_
                case hy42 => intro w hSw; (try dsimp only at hSw); go_simp; try with_reducible rfl
                simp only [Act.put, List.getElem_toArray, List.getElem_cons_zero, List.getElem_cons_succ, List.setIfInBounds_toArray, List.set_cons_zero, List.set_cons_succ]
                refine wpAnyN_take (i := 15) (v := ?v43) rfl (by kernel_rfl) (by kernel_rfl) (by kernel_rfl) (by kernel_rfl) (fun _ _ _ h => h) (Or.inl ⟨by rfl, ?hy43⟩) (by assumption) ?_
                case hy43 => intro w hSw; (try dsimp only at hSw); go_simp; try with_reducible rfl
                simp only [Act.put, List.getElem_toArray, List.getElem_cons_zero, List.getElem_cons_succ, List.setIfInBounds_toArray, List.set_cons_zero, List.set_cons_succ]
                refine wpAnyN_take (i := 16) (v := ?v44) rfl (by kernel_rfl) (by kernel_rfl) (by kernel_rfl) (by kernel_rfl) (fun _ _ _ h => h) (Or.inl ⟨by rfl, ?hy44⟩) (by assumption) ?_
                case hy44 => intro w hSw; (try dsimp only at hSw); go_simp; try with_reducible rfl
                simp only [Act.put, List.getElem_toArray, List.getElem_cons_zero, List.getElem_cons_succ, List.setIfInBounds_toArray, List.set_cons_zero, List.set_cons_succ]
                refine wpAnyN_take (i := 17) (v := ?v45) rfl (by kernel_rfl) (by kernel_rfl) (by kernel_rfl) (by kernel_rfl) (fun _ _ _ h => h) (Or.inl ⟨by rfl, ?hy45⟩) (by assumption) ?_
                case hy45 => intro w hSw; (try dsimp only at hSw); go_simp; try with_reducible rfl
                simp only [Act.put, List.getElem_toArray, List.getElem_cons_zero, List.getElem_cons_succ, List.setIfInBounds_toArray, List.set_cons_zero, List.set_cons_succ]
                refine wpAnyN_take (i := 18) (v := ?v46) rfl (by kernel_rfl) (by kernel_rfl) (by kernel_rfl) (by kernel_rfl) (fun _ _ _ h => h) (Or.inl ⟨by rfl, ?hy46⟩) (by assumption) ?_
                case hy46 => intro w hSw; (try dsimp only at hSw); go_simp; try with_reducible rfl
                simp only [Act.put, List.getElem_toArray, List.getElem_cons_zero, List.getElem_cons_succ, List.setIfInBounds_toArray, List.set_cons_zero, List.set_cons_succ]
                refine wpAnyN_one (i := 19) (by kernel_rfl) rfl (fun K hK => ?_)
                simp only [List.getElem_toArray, List.getElem_cons_zero, List.getElem_cons_succ]
                go_simp
                refine hK _ _ (fun _ => hS4) ?_
                refine wpAnyN_done (by kernel_rfl) ?_ _
                clear hS0 hS4 hb4 hbv4 hsd
                go_wp2
                go_ret
                exact ⟨ret_bool HR.out.symm, HB4.out⟩
        · obtain rfl : k = s.opn.length := by omega
          have HVC := Lib.hid (show validB s = (standardB s.opn && curB s) by rw [HV.out, ← rowsR_eq _ (Nat.le_refl _), HP.out, Bool.and_true])
          obtain ⟨b, off, x, rfl, hb, hx, hx4⟩ := HO.out.at (i := 0) (by omega)
          obtain ⟨b', off', y, e1, hb', hy, hy4⟩ := HO.out.at (i := 1) (by omega)
          injection e1 with e1
          injection e1 with e1 e2
          subst e1 e2
          have hstd : standardB s.opn = (stdA x && stdB y) := by
            match s.opn, hx, hy with
            | a :: a2 :: t, h1, h2 => simp at h1 h2; subst h1 h2; rfl
          have HST := Lib.hid (show validB s = (stdA x && stdB y && curB s) by rw [HVC.out, hstd])
          obtain ⟨q0, q1, q2, q3, q4, q5, q6⟩ := hx4.below hb HB.out
          obtain ⟨r0, r1, r2, r3, r4, r5, r6⟩ := hy4.below hb' HB.out
          simp only [Nat.zero_mul, Nat.add_zero, Nat.one_mul] at q0 q1 q2 q3 q4 q5 q6 r0 r1 r2 r3 r4 r5 r6
          have hbz : b < wr.heap.size := by omega
          have hl1 : (1 : Int) < (s.opn.length : Int) := by omega
          clear hstd hx hy hx4 hy4 d0 d1 dl d2 d3 g0 g1 g2 g3
          go_upto_region 15 with fail
          go_cut [7, 8] from 112 to 119 (fun s7 s8 wx => ∃ xa xb, s7 = .pointer (some ⟨xa, 0, none⟩) ∧ s8 = .pointer (some ⟨xb, 0, none⟩) ∧ Below w.heap.size w wx ∧ Blk wx w.heap.size 25 #[.slice A0 s.files.length c0, .slice (some ⟨b, off, none⟩) s.opn.length c1, .int .i64 s.inp, .int .i64 s.out, .int .i64 s.nxt] ∧ Blk wx xa 52 #[.int .i64 x.id, .string x.file, .int .i64 x.mode, .int .i64 x.pos, .string x.alias_, .int .i64 x.eof, .bool x.past] ∧ Blk wx xb 52 #[.int .i64 y.id, .string y.file, .int .i64 y.mode, .int .i64 y.pos, .string y.alias_, .int .i64 y.eof, .bool y.past])
          case first =>
            go_region
            all_goals go_wp2_with fail
            all_goals go_meet
            · exact ⟨_, _, rfl, rfl, bDrewN ((HB.out.alloc hz _).alloc (by simp; omega) _) 1, (HK.out.alloc _).alloc _, (two_new _ _ _ _ _).1, (two_new _ _ _ _ _).2⟩
            · exact ⟨_, _, rfl, rfl, bDrewN ((HB.out.alloc hz _).alloc (by simp; omega) _) 1, (HK.out.alloc _).alloc _, (two_new _ _ _ _ _).2, (two_new _ _ _ _ _).1⟩
          case rest =>
            obtain ⟨xa, xb, rfl, rfl, hB9, hK9, hX9, hY9⟩ := hcut
            have HB9 := Lib.hid hB9
            have HK9 := Lib.hid hK9
            clear p0 p1 p2 p3 p4 q0 q1 q2 q3 q4 q5 q6 r0 r1 r2 r3 r4 r5 r6
            obtain ⟨q0, q1, q2, q3, q4, q5, q6⟩ := gBox hX9
            obtain ⟨r0, r1, r2, r3, r4, r5, r6⟩ := gBox hY9
            clear hB9 hK9 hX9 hY9
            go_wp2_with fail
            all_goals try (go_ret
                           exact ⟨ret_bool (by rw [HST.out]; first | (simp [stdA, stdB, inS_list, outS_list, *]; done) | (simp_all [stdA, stdB, inS_list, outS_list]; done)), HB9.out⟩)
            have HVD := Lib.hid (show validB s = curB s by rw [HST.out]; first | (simp [stdA, stdB, inS_list, outS_list, *]; done) | (simp_all [stdA, stdB, inS_list, outS_list]; done))
            clear q0 q1 q2 q3 q4 q5 q6 r0 r1 r2 r3 r4 r5 r6
            refine wp_region_N (fun w' => w'.cell? ⟨w.heap.size, 0, none⟩ = some (.slice A0 s.files.length c0) ∧ w'.cell? ⟨w.heap.size, 1, none⟩ = some (.slice (some ⟨b, off, none⟩) s.opn.length c1) ∧ w'.cell? ⟨w.heap.size, 2, none⟩ = some (.int .i64 s.inp) ∧ w'.cell? ⟨w.heap.size, 3, none⟩ = some (.int .i64 s.out) ∧ w'.cell? ⟨w.heap.size, 4, none⟩ = some (.int .i64 s.nxt)) (fun _ => true) (by kernel_rfl) ?_
            have hB0 : Below w.heap.size w wc.drew := bDrewN HB9.out 1
            have hK0 : Blk wc.drew w.heap.size 25 #[.slice A0 s.files.length c0, .slice (some ⟨b, off, none⟩) s.opn.length c1, .int .i64 s.inp, .int .i64 s.out, .int .i64 s.nxt] := HK9.out
            have hS0 : (fun w' => w'.cell? ⟨w.heap.size, 0, none⟩ = some (.slice A0 s.files.length c0) ∧ w'.cell? ⟨w.heap.size, 1, none⟩ = some (.slice (some ⟨b, off, none⟩) s.opn.length c1) ∧ w'.cell? ⟨w.heap.size, 2, none⟩ = some (.int .i64 s.inp) ∧ w'.cell? ⟨w.heap.size, 3, none⟩ = some (.int .i64 s.out) ∧ w'.cell? ⟨w.heap.size, 4, none⟩ = some (.int .i64 s.nxt)) wc.drew := smBox hK0
            refine wpAnyN_take (i := 0) (v := ?v1) rfl (by kernel_rfl) (by kernel_rfl) (by kernel_rfl) (by kernel_rfl) (fun _ _ _ h => h) (Or.inl ⟨by rfl, ?hy1⟩) (by assumption) ?_
            case hy1 => intro w hSw; (try dsimp only at hSw); go_simp; try with_reducible rfl
            simp only [Act.put, List.getElem_toArray, List.getElem_cons_zero, List.setIfInBounds_toArray, List.set_cons_zero, List.set_cons_succ]
            refine wpAnyN_take (i := 1) (v := ?v2) rfl (by kernel_rfl) (by kernel_rfl) (by kernel_rfl) (by kernel_rfl) (fun _ _ _ h => h) (Or.inl ⟨by rfl, ?hy2⟩) (by assumption) ?_
            case hy2 => intro w hSw; (try dsimp only at hSw); go_simp; try with_reducible rfl
            simp only [Act.put, List.getElem_toArray, List.getElem_cons_zero, List.getElem_cons_succ, List.setIfInBounds_toArray, List.set_cons_zero, List.set_cons_succ]
            refine wpAnyN_take (i := 2) (v := ?v3) rfl (by kernel_rfl) (by kernel_rfl) (by kernel_rfl) (by kernel_rfl) (fun _ _ _ h => h) (Or.inl ⟨by rfl, ?hy3⟩) (by assumption) ?_
            case hy3 => intro w hSw; (try dsimp only at hSw); go_simp; try with_reducible rfl
            simp only [Act.put, List.getElem_toArray, List.getElem_cons_zero, List.getElem_cons_succ, List.setIfInBounds_toArray, List.set_cons_zero, List.set_cons_succ]
            refine wpAnyN_take (i := 4) (v := ?v4) rfl (by kernel_rfl) (by kernel_rfl) (by kernel_rfl) (by kernel_rfl) (fun _ _ _ h => h) (Or.inl ⟨by rfl, ?hy4⟩) (by assumption) ?_
            case hy4 => intro w hSw; (try dsimp only at hSw); go_simp; try with_reducible rfl
            simp only [Act.put, List.getElem_toArray, List.getElem_cons_zero, List.getElem_cons_succ, List.setIfInBounds_toArray, List.set_cons_zero, List.set_cons_succ]
            refine wpAnyN_take (i := 5) (v := ?v5) rfl (by kernel_rfl) (by kernel_rfl) (by kernel_rfl) (by kernel_rfl) (fun _ _ _ h => h) (Or.inl ⟨by rfl, ?hy5⟩) (by assumption) ?_
            case hy5 => intro w hSw; (try dsimp only at hSw); go_simp; try with_reducible rfl
            simp only [Act.put, List.getElem_toArray, List.getElem_cons_zero, List.getElem_cons_succ, List.setIfInBounds_toArray, List.set_cons_zero, List.set_cons_succ]
            refine wpAnyN_take (i := 6) (v := ?v6) rfl (by kernel_rfl) (by kernel_rfl) (by kernel_rfl) (by kernel_rfl) (fun _ _ _ h => h) (Or.inl ⟨by rfl, ?hy6⟩) (by assumption) ?_
            case hy6 => intro w hSw; (try dsimp only at hSw); go_simp; try with_reducible rfl
            simp only [Act.put, List.getElem_toArray, List.getElem_cons_zero, List.getElem_cons_succ, List.setIfInBounds_toArray, List.set_cons_zero, List.set_cons_succ]
            refine wpAnyN_one (i := 3) (by kernel_rfl) rfl (fun K hK => ?_)
            simp only [List.getElem_toArray, List.getElem_cons_zero, List.getElem_cons_succ]
            go_simp
            refine (rstream_any _ s s.inp _ (HS.out.next hB0)).mono ?_
            rintro e v1 ⟨rfl, hb1⟩
            have hB1 := bNext hB0 hb1
            have hK1 := hK0.next hb1
            have hS1 : (fun w' => w'.cell? ⟨w.heap.size, 0, none⟩ = some (.slice A0 s.files.length c0) ∧ w'.cell? ⟨w.heap.size, 1, none⟩ = some (.slice (some ⟨b, off, none⟩) s.opn.length c1) ∧ w'.cell? ⟨w.heap.size, 2, none⟩ = some (.int .i64 s.inp) ∧ w'.cell? ⟨w.heap.size, 3, none⟩ = some (.int .i64 s.out) ∧ w'.cell? ⟨w.heap.size, 4, none⟩ = some (.int .i64 s.nxt)) v1 := smBox hK1
            refine hK _ _ (fun _ => hS1) ?_
            refine wpAnyN_one (i := 7) (by kernel_rfl) rfl (fun K hK => ?_)
            simp only [List.getElem_toArray, List.getElem_cons_zero, List.getElem_cons_succ]
            go_simp
            refine (rstream_any _ s s.out _ (HS.out.next hB1)).mono ?_
            rintro e v2 ⟨rfl, hb2⟩
            have hB2 := bNext hB1 hb2
            have hK2 := hK1.next hb2
            have hS2 : (fun w' => w'.cell? ⟨w.heap.size, 0, none⟩ = some (.slice A0 s.files.length c0) ∧ w'.cell? ⟨w.heap.size, 1, none⟩ = some (.slice (some ⟨b, off, none⟩) s.opn.length c1) ∧ w'.cell? ⟨w.heap.size, 2, none⟩ = some (.int .i64 s.inp) ∧ w'.cell? ⟨w.heap.size, 3, none⟩ = some (.int .i64 s.out) ∧ w'.cell? ⟨w.heap.size, 4, none⟩ = some (.int .i64 s.nxt)) v2 := smBox hK2
            refine hK _ _ (fun _ => hS2) ?_
            refine wpAnyN_one (i := 8) (by kernel_rfl) rfl (fun K hK => ?_)
            simp only [List.getElem_toArray, List.getElem_cons_zero, List.getElem_cons_succ]
            go_simp
            refine hK _ _ (fun _ => hS2) ?_
            refine wpAnyN_one (i := 9) (by kernel_rfl) rfl (fun K hK => ?_)
            simp only [List.getElem_toArray, List.getElem_cons_zero, List.getElem_cons_succ]
            go_simp
            refine hK _ _ (fun _ => hS2) ?_
            refine wpAnyN_done (by kernel_rfl) ?_ _
            obtain ⟨z0, z1, z2, z3, z4⟩ := smBox hK2
            have HBX := Lib.hid hB2
            have hcur : curB s = (decide (0 ≤ idxI s.opn (idP s.inp)) && decide (0 ≤ idxI s.opn (idP s.out)) && modeAt s.opn (idxI s.opn (idP s.inp)) == 1 && !(modeAt s.opn (idxI s.opn (idP s.out)) == 1)) := rfl
            clear hS0 hS1 hS2 hB0 hB1 hB2 hK0 hK1 hK2 hb1 hb2
            rcases idxI_cases s.opn (idP s.inp) with ⟨hin, -⟩ | ⟨i, x, hin, hil, hxi, -⟩
            · have HR := Lib.hid (show validB s = false by rw [HVD.out, hcur, hin]; simp)
              rw [hin]
              clear hcur hin
              go_wp2
              go_ret
              exact ⟨ret_bool HR.out.symm, HBX.out⟩
            · rcases idxI_cases s.opn (idP s.out) with ⟨hou, -⟩ | ⟨j, y, hou, hjl, hyj, -⟩
              · have HR := Lib.hid (show validB s = false by rw [HVD.out, hcur, hou]; simp)
                rw [hin, hou]
                clear hcur hin hou
                go_wp2
                go_ret
                exact ⟨ret_bool HR.out.symm, HBX.out⟩
              · have HR := Lib.hid (show validB s = (x.mode == 1 && !(y.mode == 1)) by rw [HVD.out, hcur, hin, hou]; simp [modeAt, hxi, hyj])
                rw [hin, hou]
                obtain ⟨b1, off1, x', e1, hb1, hx, hx4⟩ := HO.out.at hil
                injection e1 with e1
                injection e1 with e1 e2
                subst e1 e2
                rw [hxi] at hx
                injection hx with hx
                subst hx
                obtain ⟨b', off', y', e1, hb', hy, hy4⟩ := HO.out.at hjl
                injection e1 with e1
                injection e1 with e1 e2
                subst e1 e2
                rw [hyj] at hy
                injection hy with hy
                subst hy
                obtain ⟨q0, q1, q2, q3, q4, q5, q6⟩ := hx4.below hb1 HBX.out
                obtain ⟨r0, r1, r2, r3, r4, r5, r6⟩ := hy4.below hb' HBX.out
                clear hcur hin hou hxi hyj hx4 hy4
                go_wp2
                all_goals go_ret
                all_goals refine ⟨ret_bool ?_, HBX.out⟩
                all_goals rw [HR.out]
                all_goals first | (simp [*]; done) | (simp [*]; rfl) | (simp_all; done)
end Go.Proofs.Ytklpghpfdeojeaa
