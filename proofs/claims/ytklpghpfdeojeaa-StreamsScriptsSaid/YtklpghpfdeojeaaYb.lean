/-
  Walks: act and want (a call by its kind).
-/
import Derived.Test.YtklpghpfdeojeaaYa
import Derived.Test.YtklpghpfdeojeaaUh
import Derived.Test.YtklpghpfdeojeaaUe
import Derived.Test.YtklpghpfdeojeaaUi
import Derived.Test.YtklpghpfdeojeaaUg
import Derived.Test.YtklpghpfdeojeaaUd
import Derived.Test.YtklpghpfdeojeaaVd
import Derived.Test.YtklpghpfdeojeaaUk
import Derived.Test.YtklpghpfdeojeaaRegN
namespace Go.Proofs.Ytklpghpfdeojeaa
open Go.RowKit

/-- what act and want return: the call's state (fresh, or the very value that came in), and what it told -/
def RetA (v : Value) (s : Sm) (r : Sm × T) (w : World) (e : Ending) (w' : World) : Prop :=
  (∃ v', e = .returned (.tuple #[v', r.2.v]) ∧ (FreshS w' w.heap.size v' r.1 ∨ v' = v ∧ r.1 = s)) ∧ Below w.heap.size w w'

theorem six (w : World) (z0 z1 : Array Value) : ∃ W, Hid (W = ((((((w.alloc (.cells z0 25)).alloc (.cells z1 58)).alloc (.cells #[.slice none 0 0, .slice none 0 0, .int .i64 0, .int .i64 0, .int .i64 0] 25)).alloc (.cells #[.int .i64 0, .string ⟨#[]⟩, .bool false, .int .i64 0] 61)).alloc (.cells z0 25)).alloc (.cells #[.int .i64 0, .string ⟨#[]⟩, .bool false, .int .i64 0] 61))) ∧ Below w.heap.size w W ∧ W.heap.size = w.heap.size + 6 ∧ Blk W (w.heap.size) 25 z0 ∧ Blk W (w.heap.size + 1) 58 z1 ∧ Blk W (w.heap.size + 1 + 1) 25 #[.slice none 0 0, .slice none 0 0, .int .i64 0, .int .i64 0, .int .i64 0] ∧ Blk W (w.heap.size + 1 + 1 + 1) 61 #[.int .i64 0, .string ⟨#[]⟩, .bool false, .int .i64 0] ∧ Blk W (w.heap.size + 1 + 1 + 1 + 1) 25 z0 ∧ Blk W (w.heap.size + 1 + 1 + 1 + 1 + 1) 61 #[.int .i64 0, .string ⟨#[]⟩, .bool false, .int .i64 0] := by
  obtain ⟨W, HWd⟩ : ∃ W, Hid (W = ((((((w.alloc (.cells z0 25)).alloc (.cells z1 58)).alloc (.cells #[.slice none 0 0, .slice none 0 0, .int .i64 0, .int .i64 0, .int .i64 0] 25)).alloc (.cells #[.int .i64 0, .string ⟨#[]⟩, .bool false, .int .i64 0] 61)).alloc (.cells z0 25)).alloc (.cells #[.int .i64 0, .string ⟨#[]⟩, .bool false, .int .i64 0] 61))) := ⟨_, rfl⟩
  have hbW : Below w.heap.size w W := by
    rw [HWd.out]
    exact (Below.alloc (Below.alloc (Below.alloc (Below.alloc (Below.alloc (bAlloc w _) (by simp) _) (by simp; omega) _) (by simp; omega) _) (by simp; omega) _) (by simp; omega) _)
  have hzW : W.heap.size = w.heap.size + 6 := by rw [HWd.out]; simp
  have k0 : Blk W w.heap.size 25 z0 := by rw [HWd.out]; exact (Blk.alloc (Blk.alloc (Blk.alloc (Blk.alloc (Blk.alloc (Blk.new _ _ _) (.cells z1 58)) (.cells #[.slice none 0 0, .slice none 0 0, .int .i64 0, .int .i64 0, .int .i64 0] 25)) (.cells #[.int .i64 0, .string ⟨#[]⟩, .bool false, .int .i64 0] 61)) (.cells z0 25)) (.cells #[.int .i64 0, .string ⟨#[]⟩, .bool false, .int .i64 0] 61))
  have k1 : Blk W (w.heap.size + 1) 58 z1 := by
    have h := (Blk.alloc (Blk.alloc (Blk.alloc (Blk.alloc (Blk.new (w.alloc (.cells z0 25)) 58 z1) (.cells #[.slice none 0 0, .slice none 0 0, .int .i64 0, .int .i64 0, .int .i64 0] 25)) (.cells #[.int .i64 0, .string ⟨#[]⟩, .bool false, .int .i64 0] 61)) (.cells z0 25)) (.cells #[.int .i64 0, .string ⟨#[]⟩, .bool false, .int .i64 0] 61))
    rw [World.size_alloc] at h
    rw [HWd.out]; exact h
  have k2 : Blk W (w.heap.size + 1 + 1) 25 #[.slice none 0 0, .slice none 0 0, .int .i64 0, .int .i64 0, .int .i64 0] := by
    have h := (Blk.alloc (Blk.alloc (Blk.alloc (Blk.new ((w.alloc (.cells z0 25)).alloc (.cells z1 58)) 25 #[.slice none 0 0, .slice none 0 0, .int .i64 0, .int .i64 0, .int .i64 0]) (.cells #[.int .i64 0, .string ⟨#[]⟩, .bool false, .int .i64 0] 61)) (.cells z0 25)) (.cells #[.int .i64 0, .string ⟨#[]⟩, .bool false, .int .i64 0] 61))
    rw [World.size_alloc, World.size_alloc] at h
    rw [HWd.out]; exact h
  have k3 : Blk W (w.heap.size + 1 + 1 + 1) 61 #[.int .i64 0, .string ⟨#[]⟩, .bool false, .int .i64 0] := by
    have h := (Blk.alloc (Blk.alloc (Blk.new (((w.alloc (.cells z0 25)).alloc (.cells z1 58)).alloc (.cells #[.slice none 0 0, .slice none 0 0, .int .i64 0, .int .i64 0, .int .i64 0] 25)) 61 #[.int .i64 0, .string ⟨#[]⟩, .bool false, .int .i64 0]) (.cells z0 25)) (.cells #[.int .i64 0, .string ⟨#[]⟩, .bool false, .int .i64 0] 61))
    rw [World.size_alloc, World.size_alloc, World.size_alloc] at h
    rw [HWd.out]; exact h
  have k4 : Blk W (w.heap.size + 1 + 1 + 1 + 1) 25 z0 := by
    have h := (Blk.alloc (Blk.new ((((w.alloc (.cells z0 25)).alloc (.cells z1 58)).alloc (.cells #[.slice none 0 0, .slice none 0 0, .int .i64 0, .int .i64 0, .int .i64 0] 25)).alloc (.cells #[.int .i64 0, .string ⟨#[]⟩, .bool false, .int .i64 0] 61)) 25 z0) (.cells #[.int .i64 0, .string ⟨#[]⟩, .bool false, .int .i64 0] 61))
    rw [World.size_alloc, World.size_alloc, World.size_alloc, World.size_alloc] at h
    rw [HWd.out]; exact h
  have k5 : Blk W (w.heap.size + 1 + 1 + 1 + 1 + 1) 61 #[.int .i64 0, .string ⟨#[]⟩, .bool false, .int .i64 0] := by
    have h := (Blk.new (((((w.alloc (.cells z0 25)).alloc (.cells z1 58)).alloc (.cells #[.slice none 0 0, .slice none 0 0, .int .i64 0, .int .i64 0, .int .i64 0] 25)).alloc (.cells #[.int .i64 0, .string ⟨#[]⟩, .bool false, .int .i64 0] 61)).alloc (.cells z0 25)) 61 #[.int .i64 0, .string ⟨#[]⟩, .bool false, .int .i64 0])
    rw [World.size_alloc, World.size_alloc, World.size_alloc, World.size_alloc, World.size_alloc] at h
    rw [HWd.out]; exact h
  have HBW := Lib.hid hbW
  clear hbW
  exact ⟨W, HWd, HBW.out, hzW, k0, k1, k2, k3, k4, k5⟩
theorem boundS {r : Except Int Sm} (h : ∀ t, r = .ok t → validB t = true) : (smOf r).files.length ≤ 4398046511104 ∧ (smOf r).opn.length ≤ 1954687338268 := by
  cases r with
  | error e => exact ⟨Nat.zero_le _, Nat.zero_le _⟩
  | ok t => obtain ⟨h1, h2, -⟩ := valid_head (h t rfl); exact ⟨by show t.files.length ≤ _; omega, by show t.opn.length ≤ _; omega⟩
theorem boundG {r : Except Int (Sm × Int)} (h : ∀ t c, r = .ok (t, c) → validB t = true) : (sm2 r).files.length ≤ 4398046511104 ∧ (sm2 r).opn.length ≤ 1954687338268 := by
  cases r with
  | error e => exact ⟨Nat.zero_le _, Nat.zero_le _⟩
  | ok t => obtain ⟨h1, h2, -⟩ := valid_head (h t.1 t.2 rfl); exact ⟨by show t.1.files.length ≤ _; omega, by show t.1.opn.length ≤ _; omega⟩

set_option maxHeartbeats 4000000 in
set_option maxRecDepth 100000 in
theorem act4 (v : Value) (s : Sm) (id n eof : Int) (name al : ByteArray) (w : World) (hs : SmAt w w.heap.size v s) :
    Calls Try.prog 26 #[v, .agg #[.int .i64 4, .int .i64 id, .int .i64 n, .int .i64 eof, .string name, .string al]] w (RetA v s (s, ⟨0, restV s id true, false, errOf (readV s id true)⟩) w) := by
  obtain ⟨A0, c0, A1, c1, rfl, hcap, h0, h1⟩ := hs
  have HS : Hid (SmAt w w.heap.size (smV A0 A1 c0 c1 s) s) := ⟨A0, c0, A1, c1, rfl, hcap, h0, h1⟩
  clear h0 h1 hcap
  obtain ⟨W, HWd, hbW, hzW, k0, k1, k2, k3, k4, k5⟩ := six w #[.slice A0 s.files.length c0, .slice A1 s.opn.length c1, .int .i64 s.inp, .int .i64 s.out, .int .i64 s.nxt] #[.int .i64 4, .int .i64 id, .int .i64 n, .int .i64 eof, .string name, .string al]
  have HBW := Lib.hid hbW
  clear hbW
  go_enter Try.func26, Try.ntmps26
  go_wp2_with fail
  rw [← HWd.out]
  refine (rest_any _ s id _ (HS.out.next HBW.out)).mono ?_
  rintro e w1 ⟨rfl, hb1⟩
  have HB1 := Lib.hid (bNext HBW.out hb1)
  have q0 := k0.next hb1
  have q1 := k1.next hb1
  have q2 := k2.next hb1
  have q3 := k3.next hb1
  have q4 := k4.next hb1
  have q5 := k5.next hb1
  clear hb1 k0 k1 k2 k3 k4 k5
  have z0 := q4.cell 0
  have z1 := q4.cell 1
  have z2 := q4.cell 2
  have z3 := q4.cell 3
  have z4 := q4.cell 4
  simp at z0 z1 z2 z3 z4
  have y0 := q5.cell 0
  have y1 := q5.cell 1
  have y2 := q5.cell 2
  have y3 := q5.cell 3
  simp at y0 y1 y2 y3
  have fz0 := q4.frozen 0
  have fz1 := q4.frozen 1
  have fz2 := q4.frozen 2
  have fz3 := q4.frozen 3
  have fz4 := q4.frozen 4
  have fy0 := q5.frozen 0
  have fy1 := q5.frozen 1
  have fy2 := q5.frozen 2
  have fy3 := q5.frozen 3
  have zz := q5.lt
  go_upto_region 25 with fail
  obtain ⟨wx, HWX⟩ : ∃ wx, Hid (wx = ((w1.setCell ⟨w.heap.size + 1 + 1 + 1 + 1 + 1, 1, none⟩ (.string (restV s id true))).setCell ⟨w.heap.size + 1 + 1 + 1 + 1 + 1, 3, none⟩ (.int .i64 (errOf (readV s id true))))) := ⟨_, rfl⟩
  have HBx := Lib.hid (show Below w.heap.size w wx by rw [HWX.out]; repeat (first | (with_reducible exact HB1.out) | ((with_reducible refine Below.setCell ?_ ?_ _); rotate_left; focus (first | (simp; done) | (simp; omega)))))
  have hzx : wx.heap.size = w1.heap.size := by rw [HWX.out]; simp
  have x2 : Blk wx (w.heap.size + 1 + 1) 25 #[.slice none 0 0, .slice none 0 0, .int .i64 0, .int .i64 0, .int .i64 0] := by
    rw [HWX.out]
    have h := (Blk.far (Blk.far q2 (p := ⟨w.heap.size + 1 + 1 + 1 + 1 + 1, 1, none⟩) (by first | (simp; done) | (simp; omega)) (.string (restV s id true))) (p := ⟨w.heap.size + 1 + 1 + 1 + 1 + 1, 3, none⟩) (by first | (simp; done) | (simp; omega)) (.int .i64 (errOf (readV s id true))))
    simpa using h
  have x3 : Blk wx (w.heap.size + 1 + 1 + 1) 61 #[.int .i64 0, .string ⟨#[]⟩, .bool false, .int .i64 0] := by
    rw [HWX.out]
    have h := (Blk.far (Blk.far q3 (p := ⟨w.heap.size + 1 + 1 + 1 + 1 + 1, 1, none⟩) (by first | (simp; done) | (simp; omega)) (.string (restV s id true))) (p := ⟨w.heap.size + 1 + 1 + 1 + 1 + 1, 3, none⟩) (by first | (simp; done) | (simp; omega)) (.int .i64 (errOf (readV s id true))))
    simpa using h
  have x4 : Blk wx (w.heap.size + 1 + 1 + 1 + 1) 25 #[.slice A0 s.files.length c0, .slice A1 s.opn.length c1, .int .i64 s.inp, .int .i64 s.out, .int .i64 s.nxt] := by
    rw [HWX.out]
    have h := (Blk.far (Blk.far q4 (p := ⟨w.heap.size + 1 + 1 + 1 + 1 + 1, 1, none⟩) (by first | (simp; done) | (simp; omega)) (.string (restV s id true))) (p := ⟨w.heap.size + 1 + 1 + 1 + 1 + 1, 3, none⟩) (by first | (simp; done) | (simp; omega)) (.int .i64 (errOf (readV s id true))))
    simpa using h
  have x5 : Blk wx (w.heap.size + 1 + 1 + 1 + 1 + 1) 61 #[.int .i64 0, .string (restV s id true), .bool false, .int .i64 (errOf (readV s id true))] := by
    rw [HWX.out]
    have h := (Blk.set_ (Blk.set_ q5 1 (.string (restV s id true))) 3 (.int .i64 (errOf (readV s id true))))
    simpa using h
  try rw [← HWX.out]
  clear q0 q1 q2 q3 q4 q5 z0 z1 z2 z3 z4 y0 y1 y2 y3 fz0 fz1 fz2 fz3 fz4 fy0 fy1 fy2 fy3
  clear HWX
  have s0 := x2.frozen 0
  have ga0 := x2.frozen 0
  have ga1 := x2.frozen 1
  have ga2 := x2.frozen 2
  have ga3 := x2.frozen 3
  have ga4 := x2.frozen 4
  have gb0 := x3.frozen 0
  have gb1 := x3.frozen 1
  have gb2 := x3.frozen 2
  have gb3 := x3.frozen 3
  have ca0 := x2.cell 0
  have ca1 := x2.cell 1
  have ca2 := x2.cell 2
  have ca3 := x2.cell 3
  have ca4 := x2.cell 4
  simp at ca0 ca1 ca2 ca3 ca4
  have cb0 := x3.cell 0
  have cb1 := x3.cell 1
  have cb2 := x3.cell 2
  have cb3 := x3.cell 3
  simp at cb0 cb1 cb2 cb3
  have lx := x5.lt
  refine wp_region_N (fun w' => Blk w' (w.heap.size + 1 + 1 + 1 + 1) 25 #[.slice A0 s.files.length c0, .slice A1 s.opn.length c1, .int .i64 s.inp, .int .i64 s.out, .int .i64 s.nxt] ∧ Blk w' (w.heap.size + 1 + 1 + 1 + 1 + 1) 61 #[.int .i64 0, .string (restV s id true), .bool false, .int .i64 (errOf (readV s id true))]) (fun j => decide (j < 3)) (by kernel_rfl) ?_
  have hS0 : (fun w' => Blk w' (w.heap.size + 1 + 1 + 1 + 1) 25 #[.slice A0 s.files.length c0, .slice A1 s.opn.length c1, .int .i64 s.inp, .int .i64 s.out, .int .i64 s.nxt] ∧ Blk w' (w.heap.size + 1 + 1 + 1 + 1 + 1) 61 #[.int .i64 0, .string (restV s id true), .bool false, .int .i64 (errOf (readV s id true))]) wx.drew := ⟨x4, x5⟩
  refine wpAnyN_take (i := 0) (v := ?v1) rfl (by kernel_rfl) (by kernel_rfl) (by kernel_rfl) (by kernel_rfl) (fun _ _ _ h => h) (Or.inl ⟨by rfl, ?hy1⟩) (by assumption) ?_
  case hy1 => intro w hSw; obtain ⟨u4, u5⟩ := hSw; have e0 := u4.cell 0; have e1 := u4.cell 1; have e2 := u4.cell 2; have e3 := u4.cell 3; have e4 := u4.cell 4; have i0 := u5.cell 0; have i1 := u5.cell 1; have i2 := u5.cell 2; have i3 := u5.cell 3; simp at e0 e1 e2 e3 e4 i0 i1 i2 i3; go_simp; try with_reducible rfl
  simp only [Act.put, List.getElem_toArray, List.getElem_cons_zero, List.setIfInBounds_toArray, List.set_cons_zero, List.set_cons_succ]
  refine wpAnyN_take (i := 1) (v := ?v2) rfl (by kernel_rfl) (by kernel_rfl) (by kernel_rfl) (by kernel_rfl) (fun _ _ _ h => h) (Or.inl ⟨by rfl, ?hy2⟩) (by assumption) ?_
  case hy2 => intro w hSw; obtain ⟨u4, u5⟩ := hSw; have e0 := u4.cell 0; have e1 := u4.cell 1; have e2 := u4.cell 2; have e3 := u4.cell 3; have e4 := u4.cell 4; have i0 := u5.cell 0; have i1 := u5.cell 1; have i2 := u5.cell 2; have i3 := u5.cell 3; simp at e0 e1 e2 e3 e4 i0 i1 i2 i3; go_simp; try with_reducible rfl
  simp only [Act.put, List.getElem_toArray, List.getElem_cons_zero, List.getElem_cons_succ, List.setIfInBounds_toArray, List.set_cons_zero, List.set_cons_succ]
  refine wpAnyN_one (i := 2) (by kernel_rfl) rfl (fun K hK => ?_)
  simp only [List.getElem_toArray, List.getElem_cons_zero, List.getElem_cons_succ]
  go_simp
  refine hK _ _ (fun _ => ⟨by refine Blk.drew1 ?_; repeat (first | (with_reducible exact x4) | (with_reducible refine Blk.far ?_ ?_ _); rotate_left; focus (first | (simp; done) | (simp; omega))), by refine Blk.drew1 ?_; repeat (first | (with_reducible exact x5) | (with_reducible refine Blk.far ?_ ?_ _); rotate_left; focus (first | (simp; done) | (simp; omega)))⟩) ?_
  refine wpAnyN_one (i := 3) (by kernel_rfl) rfl (fun K hK => ?_)
  simp only [List.getElem_toArray, List.getElem_cons_zero, List.getElem_cons_succ]
  go_simp
  refine hK _ _ (fun h => absurd h (by decide)) ?_
  refine wpAnyN_done (by kernel_rfl) ?_ _
  go_wp2_with fail
  refine bodyPost_ret (v := .tuple #[smV A0 A1 c0 c1 s, .agg #[.int .i64 0, .string (restV s id true), .bool false, .int .i64 (errOf (readV s id true))]]) (by simp only [results, Try.results26]; go_simp) rfl ⟨⟨_, rfl, .inr ⟨rfl, rfl⟩⟩, ?_⟩
  refine bDrewN ?_ 1
  repeat (first | (with_reducible exact HBx.out) | ((with_reducible refine Below.setCell ?_ ?_ _); rotate_left; focus (first | (simp; done) | (simp; omega))))

set_option maxHeartbeats 4000000 in
set_option maxRecDepth 100000 in
theorem act7 (v : Value) (s : Sm) (id n eof : Int) (name al : ByteArray) (w : World) (hs : SmAt w w.heap.size v s) :
    Calls Try.prog 26 #[v, .agg #[.int .i64 7, .int .i64 id, .int .i64 n, .int .i64 eof, .string name, .string al]] w (RetA v s (s, ⟨0, .empty, boolOf (atEndV s id), errOf (atEndV s id)⟩) w) := by
  obtain ⟨A0, c0, A1, c1, rfl, hcap, h0, h1⟩ := hs
  have HS : Hid (SmAt w w.heap.size (smV A0 A1 c0 c1 s) s) := ⟨A0, c0, A1, c1, rfl, hcap, h0, h1⟩
  clear h0 h1 hcap
  obtain ⟨W, HWd, hbW, hzW, k0, k1, k2, k3, k4, k5⟩ := six w #[.slice A0 s.files.length c0, .slice A1 s.opn.length c1, .int .i64 s.inp, .int .i64 s.out, .int .i64 s.nxt] #[.int .i64 7, .int .i64 id, .int .i64 n, .int .i64 eof, .string name, .string al]
  have HBW := Lib.hid hbW
  clear hbW
  go_enter Try.func26, Try.ntmps26
  go_wp2_with fail
  rw [← HWd.out]
  refine (atEnd_any _ s id _ (HS.out.next HBW.out)).mono ?_
  rintro e w1 ⟨rfl, hb1⟩
  have HB1 := Lib.hid (bNext HBW.out hb1)
  have q0 := k0.next hb1
  have q1 := k1.next hb1
  have q2 := k2.next hb1
  have q3 := k3.next hb1
  have q4 := k4.next hb1
  have q5 := k5.next hb1
  clear hb1 k0 k1 k2 k3 k4 k5
  have z0 := q4.cell 0
  have z1 := q4.cell 1
  have z2 := q4.cell 2
  have z3 := q4.cell 3
  have z4 := q4.cell 4
  simp at z0 z1 z2 z3 z4
  have y0 := q5.cell 0
  have y1 := q5.cell 1
  have y2 := q5.cell 2
  have y3 := q5.cell 3
  simp at y0 y1 y2 y3
  have fz0 := q4.frozen 0
  have fz1 := q4.frozen 1
  have fz2 := q4.frozen 2
  have fz3 := q4.frozen 3
  have fz4 := q4.frozen 4
  have fy0 := q5.frozen 0
  have fy1 := q5.frozen 1
  have fy2 := q5.frozen 2
  have fy3 := q5.frozen 3
  have zz := q5.lt
  go_upto_region 25 with fail
  obtain ⟨wx, HWX⟩ : ∃ wx, Hid (wx = ((w1.setCell ⟨w.heap.size + 1 + 1 + 1 + 1 + 1, 2, none⟩ (.bool (boolOf (atEndV s id)))).setCell ⟨w.heap.size + 1 + 1 + 1 + 1 + 1, 3, none⟩ (.int .i64 (errOf (atEndV s id))))) := ⟨_, rfl⟩
  have HBx := Lib.hid (show Below w.heap.size w wx by rw [HWX.out]; repeat (first | (with_reducible exact HB1.out) | ((with_reducible refine Below.setCell ?_ ?_ _); rotate_left; focus (first | (simp; done) | (simp; omega)))))
  have hzx : wx.heap.size = w1.heap.size := by rw [HWX.out]; simp
  have x2 : Blk wx (w.heap.size + 1 + 1) 25 #[.slice none 0 0, .slice none 0 0, .int .i64 0, .int .i64 0, .int .i64 0] := by
    rw [HWX.out]
    have h := (Blk.far (Blk.far q2 (p := ⟨w.heap.size + 1 + 1 + 1 + 1 + 1, 2, none⟩) (by first | (simp; done) | (simp; omega)) (.bool (boolOf (atEndV s id)))) (p := ⟨w.heap.size + 1 + 1 + 1 + 1 + 1, 3, none⟩) (by first | (simp; done) | (simp; omega)) (.int .i64 (errOf (atEndV s id))))
    simpa using h
  have x3 : Blk wx (w.heap.size + 1 + 1 + 1) 61 #[.int .i64 0, .string ⟨#[]⟩, .bool false, .int .i64 0] := by
    rw [HWX.out]
    have h := (Blk.far (Blk.far q3 (p := ⟨w.heap.size + 1 + 1 + 1 + 1 + 1, 2, none⟩) (by first | (simp; done) | (simp; omega)) (.bool (boolOf (atEndV s id)))) (p := ⟨w.heap.size + 1 + 1 + 1 + 1 + 1, 3, none⟩) (by first | (simp; done) | (simp; omega)) (.int .i64 (errOf (atEndV s id))))
    simpa using h
  have x4 : Blk wx (w.heap.size + 1 + 1 + 1 + 1) 25 #[.slice A0 s.files.length c0, .slice A1 s.opn.length c1, .int .i64 s.inp, .int .i64 s.out, .int .i64 s.nxt] := by
    rw [HWX.out]
    have h := (Blk.far (Blk.far q4 (p := ⟨w.heap.size + 1 + 1 + 1 + 1 + 1, 2, none⟩) (by first | (simp; done) | (simp; omega)) (.bool (boolOf (atEndV s id)))) (p := ⟨w.heap.size + 1 + 1 + 1 + 1 + 1, 3, none⟩) (by first | (simp; done) | (simp; omega)) (.int .i64 (errOf (atEndV s id))))
    simpa using h
  have x5 : Blk wx (w.heap.size + 1 + 1 + 1 + 1 + 1) 61 #[.int .i64 0, .string ⟨#[]⟩, .bool (boolOf (atEndV s id)), .int .i64 (errOf (atEndV s id))] := by
    rw [HWX.out]
    have h := (Blk.set_ (Blk.set_ q5 2 (.bool (boolOf (atEndV s id)))) 3 (.int .i64 (errOf (atEndV s id))))
    simpa using h
  try rw [← HWX.out]
  clear q0 q1 q2 q3 q4 q5 z0 z1 z2 z3 z4 y0 y1 y2 y3 fz0 fz1 fz2 fz3 fz4 fy0 fy1 fy2 fy3
  clear HWX
  have s0 := x2.frozen 0
  have ga0 := x2.frozen 0
  have ga1 := x2.frozen 1
  have ga2 := x2.frozen 2
  have ga3 := x2.frozen 3
  have ga4 := x2.frozen 4
  have gb0 := x3.frozen 0
  have gb1 := x3.frozen 1
  have gb2 := x3.frozen 2
  have gb3 := x3.frozen 3
  have ca0 := x2.cell 0
  have ca1 := x2.cell 1
  have ca2 := x2.cell 2
  have ca3 := x2.cell 3
  have ca4 := x2.cell 4
  simp at ca0 ca1 ca2 ca3 ca4
  have cb0 := x3.cell 0
  have cb1 := x3.cell 1
  have cb2 := x3.cell 2
  have cb3 := x3.cell 3
  simp at cb0 cb1 cb2 cb3
  have lx := x5.lt
  refine wp_region_N (fun w' => Blk w' (w.heap.size + 1 + 1 + 1 + 1) 25 #[.slice A0 s.files.length c0, .slice A1 s.opn.length c1, .int .i64 s.inp, .int .i64 s.out, .int .i64 s.nxt] ∧ Blk w' (w.heap.size + 1 + 1 + 1 + 1 + 1) 61 #[.int .i64 0, .string ⟨#[]⟩, .bool (boolOf (atEndV s id)), .int .i64 (errOf (atEndV s id))]) (fun j => decide (j < 3)) (by kernel_rfl) ?_
  have hS0 : (fun w' => Blk w' (w.heap.size + 1 + 1 + 1 + 1) 25 #[.slice A0 s.files.length c0, .slice A1 s.opn.length c1, .int .i64 s.inp, .int .i64 s.out, .int .i64 s.nxt] ∧ Blk w' (w.heap.size + 1 + 1 + 1 + 1 + 1) 61 #[.int .i64 0, .string ⟨#[]⟩, .bool (boolOf (atEndV s id)), .int .i64 (errOf (atEndV s id))]) wx.drew := ⟨x4, x5⟩
  refine wpAnyN_take (i := 0) (v := ?v3) rfl (by kernel_rfl) (by kernel_rfl) (by kernel_rfl) (by kernel_rfl) (fun _ _ _ h => h) (Or.inl ⟨by rfl, ?hy3⟩) (by assumption) ?_
  case hy3 => intro w hSw; obtain ⟨u4, u5⟩ := hSw; have e0 := u4.cell 0; have e1 := u4.cell 1; have e2 := u4.cell 2; have e3 := u4.cell 3; have e4 := u4.cell 4; have i0 := u5.cell 0; have i1 := u5.cell 1; have i2 := u5.cell 2; have i3 := u5.cell 3; simp at e0 e1 e2 e3 e4 i0 i1 i2 i3; go_simp; try with_reducible rfl
  simp only [Act.put, List.getElem_toArray, List.getElem_cons_zero, List.setIfInBounds_toArray, List.set_cons_zero, List.set_cons_succ]
  refine wpAnyN_take (i := 1) (v := ?v4) rfl (by kernel_rfl) (by kernel_rfl) (by kernel_rfl) (by kernel_rfl) (fun _ _ _ h => h) (Or.inl ⟨by rfl, ?hy4⟩) (by assumption) ?_
  case hy4 => intro w hSw; obtain ⟨u4, u5⟩ := hSw; have e0 := u4.cell 0; have e1 := u4.cell 1; have e2 := u4.cell 2; have e3 := u4.cell 3; have e4 := u4.cell 4; have i0 := u5.cell 0; have i1 := u5.cell 1; have i2 := u5.cell 2; have i3 := u5.cell 3; simp at e0 e1 e2 e3 e4 i0 i1 i2 i3; go_simp; try with_reducible rfl
  simp only [Act.put, List.getElem_toArray, List.getElem_cons_zero, List.getElem_cons_succ, List.setIfInBounds_toArray, List.set_cons_zero, List.set_cons_succ]
  refine wpAnyN_one (i := 2) (by kernel_rfl) rfl (fun K hK => ?_)
  simp only [List.getElem_toArray, List.getElem_cons_zero, List.getElem_cons_succ]
  go_simp
  refine hK _ _ (fun _ => ⟨by refine Blk.drew1 ?_; repeat (first | (with_reducible exact x4) | (with_reducible refine Blk.far ?_ ?_ _); rotate_left; focus (first | (simp; done) | (simp; omega))), by refine Blk.drew1 ?_; repeat (first | (with_reducible exact x5) | (with_reducible refine Blk.far ?_ ?_ _); rotate_left; focus (first | (simp; done) | (simp; omega)))⟩) ?_
  refine wpAnyN_one (i := 3) (by kernel_rfl) rfl (fun K hK => ?_)
  simp only [List.getElem_toArray, List.getElem_cons_zero, List.getElem_cons_succ]
  go_simp
  refine hK _ _ (fun h => absurd h (by decide)) ?_
  refine wpAnyN_done (by kernel_rfl) ?_ _
  go_wp2_with fail
  refine bodyPost_ret (v := .tuple #[smV A0 A1 c0 c1 s, .agg #[.int .i64 0, .string ⟨#[]⟩, .bool (boolOf (atEndV s id)), .int .i64 (errOf (atEndV s id))]]) (by simp only [results, Try.results26]; go_simp) rfl ⟨⟨_, rfl, .inr ⟨rfl, rfl⟩⟩, ?_⟩
  refine bDrewN ?_ 1
  repeat (first | (with_reducible exact HBx.out) | ((with_reducible refine Below.setCell ?_ ?_ _); rotate_left; focus (first | (simp; done) | (simp; omega))))

set_option maxHeartbeats 4000000 in
set_option maxRecDepth 100000 in
theorem act9 (v : Value) (s : Sm) (id n eof : Int) (name al : ByteArray) (w : World) (hs : SmAt w w.heap.size v s) :
    Calls Try.prog 26 #[v, .agg #[.int .i64 9, .int .i64 id, .int .i64 n, .int .i64 eof, .string name, .string al]] w (RetA v s (s, ⟨(findV s al).getD 0, .empty, (findV s al).isSome, 0⟩) w) := by
  obtain ⟨A0, c0, A1, c1, rfl, hcap, h0, h1⟩ := hs
  have HS : Hid (SmAt w w.heap.size (smV A0 A1 c0 c1 s) s) := ⟨A0, c0, A1, c1, rfl, hcap, h0, h1⟩
  clear h0 h1 hcap
  obtain ⟨W, HWd, hbW, hzW, k0, k1, k2, k3, k4, k5⟩ := six w #[.slice A0 s.files.length c0, .slice A1 s.opn.length c1, .int .i64 s.inp, .int .i64 s.out, .int .i64 s.nxt] #[.int .i64 9, .int .i64 id, .int .i64 n, .int .i64 eof, .string name, .string al]
  have HBW := Lib.hid hbW
  clear hbW
  go_enter Try.func26, Try.ntmps26
  go_wp2_with fail
  rw [← HWd.out]
  refine (find_any _ s al _ (HS.out.next HBW.out)).mono ?_
  rintro e w1 ⟨rfl, hb1⟩
  have HB1 := Lib.hid (bNext HBW.out hb1)
  have q0 := k0.next hb1
  have q1 := k1.next hb1
  have q2 := k2.next hb1
  have q3 := k3.next hb1
  have q4 := k4.next hb1
  have q5 := k5.next hb1
  clear hb1 k0 k1 k2 k3 k4 k5
  have z0 := q4.cell 0
  have z1 := q4.cell 1
  have z2 := q4.cell 2
  have z3 := q4.cell 3
  have z4 := q4.cell 4
  simp at z0 z1 z2 z3 z4
  have y0 := q5.cell 0
  have y1 := q5.cell 1
  have y2 := q5.cell 2
  have y3 := q5.cell 3
  simp at y0 y1 y2 y3
  have fz0 := q4.frozen 0
  have fz1 := q4.frozen 1
  have fz2 := q4.frozen 2
  have fz3 := q4.frozen 3
  have fz4 := q4.frozen 4
  have fy0 := q5.frozen 0
  have fy1 := q5.frozen 1
  have fy2 := q5.frozen 2
  have fy3 := q5.frozen 3
  have zz := q5.lt
  go_upto_region 25 with fail
  obtain ⟨wx, HWX⟩ : ∃ wx, Hid (wx = ((w1.setCell ⟨w.heap.size + 1 + 1 + 1 + 1 + 1, 0, none⟩ (.int .i64 ((findV s al).getD 0))).setCell ⟨w.heap.size + 1 + 1 + 1 + 1 + 1, 2, none⟩ (.bool (findV s al).isSome))) := ⟨_, rfl⟩
  have HBx := Lib.hid (show Below w.heap.size w wx by rw [HWX.out]; repeat (first | (with_reducible exact HB1.out) | ((with_reducible refine Below.setCell ?_ ?_ _); rotate_left; focus (first | (simp; done) | (simp; omega)))))
  have hzx : wx.heap.size = w1.heap.size := by rw [HWX.out]; simp
  have x2 : Blk wx (w.heap.size + 1 + 1) 25 #[.slice none 0 0, .slice none 0 0, .int .i64 0, .int .i64 0, .int .i64 0] := by
    rw [HWX.out]
    have h := (Blk.far (Blk.far q2 (p := ⟨w.heap.size + 1 + 1 + 1 + 1 + 1, 0, none⟩) (by first | (simp; done) | (simp; omega)) (.int .i64 ((findV s al).getD 0))) (p := ⟨w.heap.size + 1 + 1 + 1 + 1 + 1, 2, none⟩) (by first | (simp; done) | (simp; omega)) (.bool (findV s al).isSome))
    simpa using h
  have x3 : Blk wx (w.heap.size + 1 + 1 + 1) 61 #[.int .i64 0, .string ⟨#[]⟩, .bool false, .int .i64 0] := by
    rw [HWX.out]
    have h := (Blk.far (Blk.far q3 (p := ⟨w.heap.size + 1 + 1 + 1 + 1 + 1, 0, none⟩) (by first | (simp; done) | (simp; omega)) (.int .i64 ((findV s al).getD 0))) (p := ⟨w.heap.size + 1 + 1 + 1 + 1 + 1, 2, none⟩) (by first | (simp; done) | (simp; omega)) (.bool (findV s al).isSome))
    simpa using h
  have x4 : Blk wx (w.heap.size + 1 + 1 + 1 + 1) 25 #[.slice A0 s.files.length c0, .slice A1 s.opn.length c1, .int .i64 s.inp, .int .i64 s.out, .int .i64 s.nxt] := by
    rw [HWX.out]
    have h := (Blk.far (Blk.far q4 (p := ⟨w.heap.size + 1 + 1 + 1 + 1 + 1, 0, none⟩) (by first | (simp; done) | (simp; omega)) (.int .i64 ((findV s al).getD 0))) (p := ⟨w.heap.size + 1 + 1 + 1 + 1 + 1, 2, none⟩) (by first | (simp; done) | (simp; omega)) (.bool (findV s al).isSome))
    simpa using h
  have x5 : Blk wx (w.heap.size + 1 + 1 + 1 + 1 + 1) 61 #[.int .i64 ((findV s al).getD 0), .string ⟨#[]⟩, .bool (findV s al).isSome, .int .i64 0] := by
    rw [HWX.out]
    have h := (Blk.set_ (Blk.set_ q5 0 (.int .i64 ((findV s al).getD 0))) 2 (.bool (findV s al).isSome))
    simpa using h
  try rw [← HWX.out]
  clear q0 q1 q2 q3 q4 q5 z0 z1 z2 z3 z4 y0 y1 y2 y3 fz0 fz1 fz2 fz3 fz4 fy0 fy1 fy2 fy3
  clear HWX
  have s0 := x2.frozen 0
  have ga0 := x2.frozen 0
  have ga1 := x2.frozen 1
  have ga2 := x2.frozen 2
  have ga3 := x2.frozen 3
  have ga4 := x2.frozen 4
  have gb0 := x3.frozen 0
  have gb1 := x3.frozen 1
  have gb2 := x3.frozen 2
  have gb3 := x3.frozen 3
  have ca0 := x2.cell 0
  have ca1 := x2.cell 1
  have ca2 := x2.cell 2
  have ca3 := x2.cell 3
  have ca4 := x2.cell 4
  simp at ca0 ca1 ca2 ca3 ca4
  have cb0 := x3.cell 0
  have cb1 := x3.cell 1
  have cb2 := x3.cell 2
  have cb3 := x3.cell 3
  simp at cb0 cb1 cb2 cb3
  have lx := x5.lt
  refine wp_region_N (fun w' => Blk w' (w.heap.size + 1 + 1 + 1 + 1) 25 #[.slice A0 s.files.length c0, .slice A1 s.opn.length c1, .int .i64 s.inp, .int .i64 s.out, .int .i64 s.nxt] ∧ Blk w' (w.heap.size + 1 + 1 + 1 + 1 + 1) 61 #[.int .i64 ((findV s al).getD 0), .string ⟨#[]⟩, .bool (findV s al).isSome, .int .i64 0]) (fun j => decide (j < 3)) (by kernel_rfl) ?_
  have hS0 : (fun w' => Blk w' (w.heap.size + 1 + 1 + 1 + 1) 25 #[.slice A0 s.files.length c0, .slice A1 s.opn.length c1, .int .i64 s.inp, .int .i64 s.out, .int .i64 s.nxt] ∧ Blk w' (w.heap.size + 1 + 1 + 1 + 1 + 1) 61 #[.int .i64 ((findV s al).getD 0), .string ⟨#[]⟩, .bool (findV s al).isSome, .int .i64 0]) wx.drew := ⟨x4, x5⟩
  refine wpAnyN_take (i := 0) (v := ?v5) rfl (by kernel_rfl) (by kernel_rfl) (by kernel_rfl) (by kernel_rfl) (fun _ _ _ h => h) (Or.inl ⟨by rfl, ?hy5⟩) (by assumption) ?_
  case hy5 => intro w hSw; obtain ⟨u4, u5⟩ := hSw; have e0 := u4.cell 0; have e1 := u4.cell 1; have e2 := u4.cell 2; have e3 := u4.cell 3; have e4 := u4.cell 4; have i0 := u5.cell 0; have i1 := u5.cell 1; have i2 := u5.cell 2; have i3 := u5.cell 3; simp at e0 e1 e2 e3 e4 i0 i1 i2 i3; go_simp; try with_reducible rfl
  simp only [Act.put, List.getElem_toArray, List.getElem_cons_zero, List.setIfInBounds_toArray, List.set_cons_zero, List.set_cons_succ]
  refine wpAnyN_take (i := 1) (v := ?v6) rfl (by kernel_rfl) (by kernel_rfl) (by kernel_rfl) (by kernel_rfl) (fun _ _ _ h => h) (Or.inl ⟨by rfl, ?hy6⟩) (by assumption) ?_
  case hy6 => intro w hSw; obtain ⟨u4, u5⟩ := hSw; have e0 := u4.cell 0; have e1 := u4.cell 1; have e2 := u4.cell 2; have e3 := u4.cell 3; have e4 := u4.cell 4; have i0 := u5.cell 0; have i1 := u5.cell 1; have i2 := u5.cell 2; have i3 := u5.cell 3; simp at e0 e1 e2 e3 e4 i0 i1 i2 i3; go_simp; try with_reducible rfl
  simp only [Act.put, List.getElem_toArray, List.getElem_cons_zero, List.getElem_cons_succ, List.setIfInBounds_toArray, List.set_cons_zero, List.set_cons_succ]
  refine wpAnyN_one (i := 2) (by kernel_rfl) rfl (fun K hK => ?_)
  simp only [List.getElem_toArray, List.getElem_cons_zero, List.getElem_cons_succ]
  go_simp
  refine hK _ _ (fun _ => ⟨by refine Blk.drew1 ?_; repeat (first | (with_reducible exact x4) | (with_reducible refine Blk.far ?_ ?_ _); rotate_left; focus (first | (simp; done) | (simp; omega))), by refine Blk.drew1 ?_; repeat (first | (with_reducible exact x5) | (with_reducible refine Blk.far ?_ ?_ _); rotate_left; focus (first | (simp; done) | (simp; omega)))⟩) ?_
  refine wpAnyN_one (i := 3) (by kernel_rfl) rfl (fun K hK => ?_)
  simp only [List.getElem_toArray, List.getElem_cons_zero, List.getElem_cons_succ]
  go_simp
  refine hK _ _ (fun h => absurd h (by decide)) ?_
  refine wpAnyN_done (by kernel_rfl) ?_ _
  go_wp2_with fail
  refine bodyPost_ret (v := .tuple #[smV A0 A1 c0 c1 s, .agg #[.int .i64 ((findV s al).getD 0), .string ⟨#[]⟩, .bool (findV s al).isSome, .int .i64 0]]) (by simp only [results, Try.results26]; go_simp) rfl ⟨⟨_, rfl, .inr ⟨rfl, rfl⟩⟩, ?_⟩
  refine bDrewN ?_ 1
  repeat (first | (with_reducible exact HBx.out) | ((with_reducible refine Below.setCell ?_ ?_ _); rotate_left; focus (first | (simp; done) | (simp; omega))))

set_option maxHeartbeats 4000000 in
set_option maxRecDepth 100000 in
theorem act10 (v : Value) (s : Sm) (id n eof : Int) (name al : ByteArray) (w : World) (hs : SmAt w w.heap.size v s) :
    Calls Try.prog 26 #[v, .agg #[.int .i64 10, .int .i64 id, .int .i64 n, .int .i64 eof, .string name, .string al]] w (RetA v s (s, ⟨0, (textV s name).getD .empty, (textV s name).isSome, 0⟩) w) := by
  obtain ⟨A0, c0, A1, c1, rfl, hcap, h0, h1⟩ := hs
  have HS : Hid (SmAt w w.heap.size (smV A0 A1 c0 c1 s) s) := ⟨A0, c0, A1, c1, rfl, hcap, h0, h1⟩
  clear h0 h1 hcap
  obtain ⟨W, HWd, hbW, hzW, k0, k1, k2, k3, k4, k5⟩ := six w #[.slice A0 s.files.length c0, .slice A1 s.opn.length c1, .int .i64 s.inp, .int .i64 s.out, .int .i64 s.nxt] #[.int .i64 10, .int .i64 id, .int .i64 n, .int .i64 eof, .string name, .string al]
  have HBW := Lib.hid hbW
  clear hbW
  go_enter Try.func26, Try.ntmps26
  go_wp2_with fail
  rw [← HWd.out]
  refine (text_any _ s name _ (HS.out.next HBW.out)).mono ?_
  rintro e w1 ⟨rfl, hb1⟩
  have HB1 := Lib.hid (bNext HBW.out hb1)
  have q0 := k0.next hb1
  have q1 := k1.next hb1
  have q2 := k2.next hb1
  have q3 := k3.next hb1
  have q4 := k4.next hb1
  have q5 := k5.next hb1
  clear hb1 k0 k1 k2 k3 k4 k5
  have z0 := q4.cell 0
  have z1 := q4.cell 1
  have z2 := q4.cell 2
  have z3 := q4.cell 3
  have z4 := q4.cell 4
  simp at z0 z1 z2 z3 z4
  have y0 := q5.cell 0
  have y1 := q5.cell 1
  have y2 := q5.cell 2
  have y3 := q5.cell 3
  simp at y0 y1 y2 y3
  have fz0 := q4.frozen 0
  have fz1 := q4.frozen 1
  have fz2 := q4.frozen 2
  have fz3 := q4.frozen 3
  have fz4 := q4.frozen 4
  have fy0 := q5.frozen 0
  have fy1 := q5.frozen 1
  have fy2 := q5.frozen 2
  have fy3 := q5.frozen 3
  have zz := q5.lt
  go_upto_region 25 with fail
  obtain ⟨wx, HWX⟩ : ∃ wx, Hid (wx = ((w1.setCell ⟨w.heap.size + 1 + 1 + 1 + 1 + 1, 1, none⟩ (.string ((textV s name).getD .empty))).setCell ⟨w.heap.size + 1 + 1 + 1 + 1 + 1, 2, none⟩ (.bool (textV s name).isSome))) := ⟨_, rfl⟩
  have HBx := Lib.hid (show Below w.heap.size w wx by rw [HWX.out]; repeat (first | (with_reducible exact HB1.out) | ((with_reducible refine Below.setCell ?_ ?_ _); rotate_left; focus (first | (simp; done) | (simp; omega)))))
  have hzx : wx.heap.size = w1.heap.size := by rw [HWX.out]; simp
  have x2 : Blk wx (w.heap.size + 1 + 1) 25 #[.slice none 0 0, .slice none 0 0, .int .i64 0, .int .i64 0, .int .i64 0] := by
    rw [HWX.out]
    have h := (Blk.far (Blk.far q2 (p := ⟨w.heap.size + 1 + 1 + 1 + 1 + 1, 1, none⟩) (by first | (simp; done) | (simp; omega)) (.string ((textV s name).getD .empty))) (p := ⟨w.heap.size + 1 + 1 + 1 + 1 + 1, 2, none⟩) (by first | (simp; done) | (simp; omega)) (.bool (textV s name).isSome))
    simpa using h
  have x3 : Blk wx (w.heap.size + 1 + 1 + 1) 61 #[.int .i64 0, .string ⟨#[]⟩, .bool false, .int .i64 0] := by
    rw [HWX.out]
    have h := (Blk.far (Blk.far q3 (p := ⟨w.heap.size + 1 + 1 + 1 + 1 + 1, 1, none⟩) (by first | (simp; done) | (simp; omega)) (.string ((textV s name).getD .empty))) (p := ⟨w.heap.size + 1 + 1 + 1 + 1 + 1, 2, none⟩) (by first | (simp; done) | (simp; omega)) (.bool (textV s name).isSome))
    simpa using h
  have x4 : Blk wx (w.heap.size + 1 + 1 + 1 + 1) 25 #[.slice A0 s.files.length c0, .slice A1 s.opn.length c1, .int .i64 s.inp, .int .i64 s.out, .int .i64 s.nxt] := by
    rw [HWX.out]
    have h := (Blk.far (Blk.far q4 (p := ⟨w.heap.size + 1 + 1 + 1 + 1 + 1, 1, none⟩) (by first | (simp; done) | (simp; omega)) (.string ((textV s name).getD .empty))) (p := ⟨w.heap.size + 1 + 1 + 1 + 1 + 1, 2, none⟩) (by first | (simp; done) | (simp; omega)) (.bool (textV s name).isSome))
    simpa using h
  have x5 : Blk wx (w.heap.size + 1 + 1 + 1 + 1 + 1) 61 #[.int .i64 0, .string ((textV s name).getD .empty), .bool (textV s name).isSome, .int .i64 0] := by
    rw [HWX.out]
    have h := (Blk.set_ (Blk.set_ q5 1 (.string ((textV s name).getD .empty))) 2 (.bool (textV s name).isSome))
    simpa using h
  try rw [← HWX.out]
  clear q0 q1 q2 q3 q4 q5 z0 z1 z2 z3 z4 y0 y1 y2 y3 fz0 fz1 fz2 fz3 fz4 fy0 fy1 fy2 fy3
  clear HWX
  have s0 := x2.frozen 0
  have ga0 := x2.frozen 0
  have ga1 := x2.frozen 1
  have ga2 := x2.frozen 2
  have ga3 := x2.frozen 3
  have ga4 := x2.frozen 4
  have gb0 := x3.frozen 0
  have gb1 := x3.frozen 1
  have gb2 := x3.frozen 2
  have gb3 := x3.frozen 3
  have ca0 := x2.cell 0
  have ca1 := x2.cell 1
  have ca2 := x2.cell 2
  have ca3 := x2.cell 3
  have ca4 := x2.cell 4
  simp at ca0 ca1 ca2 ca3 ca4
  have cb0 := x3.cell 0
  have cb1 := x3.cell 1
  have cb2 := x3.cell 2
  have cb3 := x3.cell 3
  simp at cb0 cb1 cb2 cb3
  have lx := x5.lt
  refine wp_region_N (fun w' => Blk w' (w.heap.size + 1 + 1 + 1 + 1) 25 #[.slice A0 s.files.length c0, .slice A1 s.opn.length c1, .int .i64 s.inp, .int .i64 s.out, .int .i64 s.nxt] ∧ Blk w' (w.heap.size + 1 + 1 + 1 + 1 + 1) 61 #[.int .i64 0, .string ((textV s name).getD .empty), .bool (textV s name).isSome, .int .i64 0]) (fun j => decide (j < 3)) (by kernel_rfl) ?_
  have hS0 : (fun w' => Blk w' (w.heap.size + 1 + 1 + 1 + 1) 25 #[.slice A0 s.files.length c0, .slice A1 s.opn.length c1, .int .i64 s.inp, .int .i64 s.out, .int .i64 s.nxt] ∧ Blk w' (w.heap.size + 1 + 1 + 1 + 1 + 1) 61 #[.int .i64 0, .string ((textV s name).getD .empty), .bool (textV s name).isSome, .int .i64 0]) wx.drew := ⟨x4, x5⟩
  refine wpAnyN_take (i := 0) (v := ?v7) rfl (by kernel_rfl) (by kernel_rfl) (by kernel_rfl) (by kernel_rfl) (fun _ _ _ h => h) (Or.inl ⟨by rfl, ?hy7⟩) (by assumption) ?_
  case hy7 => intro w hSw; obtain ⟨u4, u5⟩ := hSw; have e0 := u4.cell 0; have e1 := u4.cell 1; have e2 := u4.cell 2; have e3 := u4.cell 3; have e4 := u4.cell 4; have i0 := u5.cell 0; have i1 := u5.cell 1; have i2 := u5.cell 2; have i3 := u5.cell 3; simp at e0 e1 e2 e3 e4 i0 i1 i2 i3; go_simp; try with_reducible rfl
  simp only [Act.put, List.getElem_toArray, List.getElem_cons_zero, List.setIfInBounds_toArray, List.set_cons_zero, List.set_cons_succ]
  refine wpAnyN_take (i := 1) (v := ?v8) rfl (by kernel_rfl) (by kernel_rfl) (by kernel_rfl) (by kernel_rfl) (fun _ _ _ h => h) (Or.inl ⟨by rfl, ?hy8⟩) (by assumption) ?_
  case hy8 => intro w hSw; obtain ⟨u4, u5⟩ := hSw; have e0 := u4.cell 0; have e1 := u4.cell 1; have e2 := u4.cell 2; have e3 := u4.cell 3; have e4 := u4.cell 4; have i0 := u5.cell 0; have i1 := u5.cell 1; have i2 := u5.cell 2; have i3 := u5.cell 3; simp at e0 e1 e2 e3 e4 i0 i1 i2 i3; go_simp; try with_reducible rfl
  simp only [Act.put, List.getElem_toArray, List.getElem_cons_zero, List.getElem_cons_succ, List.setIfInBounds_toArray, List.set_cons_zero, List.set_cons_succ]
  refine wpAnyN_one (i := 2) (by kernel_rfl) rfl (fun K hK => ?_)
  simp only [List.getElem_toArray, List.getElem_cons_zero, List.getElem_cons_succ]
  go_simp
  refine hK _ _ (fun _ => ⟨by refine Blk.drew1 ?_; repeat (first | (with_reducible exact x4) | (with_reducible refine Blk.far ?_ ?_ _); rotate_left; focus (first | (simp; done) | (simp; omega))), by refine Blk.drew1 ?_; repeat (first | (with_reducible exact x5) | (with_reducible refine Blk.far ?_ ?_ _); rotate_left; focus (first | (simp; done) | (simp; omega)))⟩) ?_
  refine wpAnyN_one (i := 3) (by kernel_rfl) rfl (fun K hK => ?_)
  simp only [List.getElem_toArray, List.getElem_cons_zero, List.getElem_cons_succ]
  go_simp
  refine hK _ _ (fun h => absurd h (by decide)) ?_
  refine wpAnyN_done (by kernel_rfl) ?_ _
  go_wp2_with fail
  refine bodyPost_ret (v := .tuple #[smV A0 A1 c0 c1 s, .agg #[.int .i64 0, .string ((textV s name).getD .empty), .bool (textV s name).isSome, .int .i64 0]]) (by simp only [results, Try.results26]; go_simp) rfl ⟨⟨_, rfl, .inr ⟨rfl, rfl⟩⟩, ?_⟩
  refine bDrewN ?_ 1
  repeat (first | (with_reducible exact HBx.out) | ((with_reducible refine Below.setCell ?_ ?_ _); rotate_left; focus (first | (simp; done) | (simp; omega))))

set_option maxHeartbeats 4000000 in
set_option maxRecDepth 100000 in
theorem act1 (v : Value) (s : Sm) (id n eof : Int) (name al : ByteArray) (w : World) (hs : SmAt w w.heap.size v s) :
    Calls Try.prog 26 #[v, .agg #[.int .i64 1, .int .i64 id, .int .i64 n, .int .i64 eof, .string name, .string al]] w (RetA v s ((smOf (closeV s id)), toldS (closeV s id)) w) := by
  obtain ⟨A0, c0, A1, c1, rfl, hcap, h0, h1⟩ := hs
  have HS : Hid (SmAt w w.heap.size (smV A0 A1 c0 c1 s) s) := ⟨A0, c0, A1, c1, rfl, hcap, h0, h1⟩
  clear h0 h1 hcap
  obtain ⟨W, HWd, hbW, hzW, k0, k1, k2, k3, k4, k5⟩ := six w #[.slice A0 s.files.length c0, .slice A1 s.opn.length c1, .int .i64 s.inp, .int .i64 s.out, .int .i64 s.nxt] #[.int .i64 1, .int .i64 id, .int .i64 n, .int .i64 eof, .string name, .string al]
  have HBW := Lib.hid hbW
  clear hbW
  go_enter Try.func26, Try.ntmps26
  go_wp2_with fail
  rw [← HWd.out]
  refine (close_any _ s id _ (HS.out.next HBW.out)).mono ?_
  rintro e w1 ⟨⟨v', rfl, ho⟩, hb1⟩
  have hlen := boundS (r := closeV s id) (fun _ => close_valid)
  obtain ⟨u, hu⟩ : ∃ u, Hid ((smOf (closeV s id)) = u) := ⟨_, rfl⟩
  rw [hu.out] at ho hlen
  replace ho := ho.fresh hlen.1 hlen.2
  have HF := Lib.hid ho
  obtain ⟨D0, e0, D1, e1, hv, -⟩ := ho
  obtain rfl : v' = .agg #[.slice D0 u.files.length e0, .slice D1 u.opn.length e1, .int .i64 u.inp, .int .i64 u.out, .int .i64 u.nxt] := hv
  clear hlen
  have HB1 := Lib.hid (bNext HBW.out hb1)
  have q0 := k0.next hb1
  have q1 := k1.next hb1
  have q2 := k2.next hb1
  have q3 := k3.next hb1
  have q4 := k4.next hb1
  have q5 := k5.next hb1
  clear hb1 k0 k1 k2 k3 k4 k5
  have z0 := q4.cell 0
  have z1 := q4.cell 1
  have z2 := q4.cell 2
  have z3 := q4.cell 3
  have z4 := q4.cell 4
  simp at z0 z1 z2 z3 z4
  have y0 := q5.cell 0
  have y1 := q5.cell 1
  have y2 := q5.cell 2
  have y3 := q5.cell 3
  simp at y0 y1 y2 y3
  have fz0 := q4.frozen 0
  have fz1 := q4.frozen 1
  have fz2 := q4.frozen 2
  have fz3 := q4.frozen 3
  have fz4 := q4.frozen 4
  have fy0 := q5.frozen 0
  have fy1 := q5.frozen 1
  have fy2 := q5.frozen 2
  have fy3 := q5.frozen 3
  have zz := q5.lt
  go_upto_region 25 with fail
  obtain ⟨wx, HWX⟩ : ∃ wx, Hid (wx = ((((((w1.setCell ⟨w.heap.size + 1 + 1 + 1 + 1, 0, none⟩ (.slice D0 u.files.length e0)).setCell ⟨w.heap.size + 1 + 1 + 1 + 1, 1, none⟩ (.slice D1 u.opn.length e1)).setCell ⟨w.heap.size + 1 + 1 + 1 + 1, 2, none⟩ (.int .i64 u.inp)).setCell ⟨w.heap.size + 1 + 1 + 1 + 1, 3, none⟩ (.int .i64 u.out)).setCell ⟨w.heap.size + 1 + 1 + 1 + 1, 4, none⟩ (.int .i64 u.nxt)).setCell ⟨w.heap.size + 1 + 1 + 1 + 1 + 1, 3, none⟩ (.int .i64 (errOf (closeV s id))))) := ⟨_, rfl⟩
  have HBx := Lib.hid (show Below w.heap.size w wx by rw [HWX.out]; repeat (first | (with_reducible exact HB1.out) | ((with_reducible refine Below.setCell ?_ ?_ _); rotate_left; focus (first | (simp; done) | (simp; omega)))))
  have hzx : wx.heap.size = w1.heap.size := by rw [HWX.out]; simp
  have x2 : Blk wx (w.heap.size + 1 + 1) 25 #[.slice none 0 0, .slice none 0 0, .int .i64 0, .int .i64 0, .int .i64 0] := by
    rw [HWX.out]
    have h := (Blk.far (Blk.far (Blk.far (Blk.far (Blk.far (Blk.far q2 (p := ⟨w.heap.size + 1 + 1 + 1 + 1, 0, none⟩) (by first | (simp; done) | (simp; omega)) (.slice D0 u.files.length e0)) (p := ⟨w.heap.size + 1 + 1 + 1 + 1, 1, none⟩) (by first | (simp; done) | (simp; omega)) (.slice D1 u.opn.length e1)) (p := ⟨w.heap.size + 1 + 1 + 1 + 1, 2, none⟩) (by first | (simp; done) | (simp; omega)) (.int .i64 u.inp)) (p := ⟨w.heap.size + 1 + 1 + 1 + 1, 3, none⟩) (by first | (simp; done) | (simp; omega)) (.int .i64 u.out)) (p := ⟨w.heap.size + 1 + 1 + 1 + 1, 4, none⟩) (by first | (simp; done) | (simp; omega)) (.int .i64 u.nxt)) (p := ⟨w.heap.size + 1 + 1 + 1 + 1 + 1, 3, none⟩) (by first | (simp; done) | (simp; omega)) (.int .i64 (errOf (closeV s id))))
    simpa using h
  have x3 : Blk wx (w.heap.size + 1 + 1 + 1) 61 #[.int .i64 0, .string ⟨#[]⟩, .bool false, .int .i64 0] := by
    rw [HWX.out]
    have h := (Blk.far (Blk.far (Blk.far (Blk.far (Blk.far (Blk.far q3 (p := ⟨w.heap.size + 1 + 1 + 1 + 1, 0, none⟩) (by first | (simp; done) | (simp; omega)) (.slice D0 u.files.length e0)) (p := ⟨w.heap.size + 1 + 1 + 1 + 1, 1, none⟩) (by first | (simp; done) | (simp; omega)) (.slice D1 u.opn.length e1)) (p := ⟨w.heap.size + 1 + 1 + 1 + 1, 2, none⟩) (by first | (simp; done) | (simp; omega)) (.int .i64 u.inp)) (p := ⟨w.heap.size + 1 + 1 + 1 + 1, 3, none⟩) (by first | (simp; done) | (simp; omega)) (.int .i64 u.out)) (p := ⟨w.heap.size + 1 + 1 + 1 + 1, 4, none⟩) (by first | (simp; done) | (simp; omega)) (.int .i64 u.nxt)) (p := ⟨w.heap.size + 1 + 1 + 1 + 1 + 1, 3, none⟩) (by first | (simp; done) | (simp; omega)) (.int .i64 (errOf (closeV s id))))
    simpa using h
  have x4 : Blk wx (w.heap.size + 1 + 1 + 1 + 1) 25 #[.slice D0 u.files.length e0, .slice D1 u.opn.length e1, .int .i64 u.inp, .int .i64 u.out, .int .i64 u.nxt] := by
    rw [HWX.out]
    have h := (Blk.far (Blk.set_ (Blk.set_ (Blk.set_ (Blk.set_ (Blk.set_ q4 0 (.slice D0 u.files.length e0)) 1 (.slice D1 u.opn.length e1)) 2 (.int .i64 u.inp)) 3 (.int .i64 u.out)) 4 (.int .i64 u.nxt)) (p := ⟨w.heap.size + 1 + 1 + 1 + 1 + 1, 3, none⟩) (by first | (simp; done) | (simp; omega)) (.int .i64 (errOf (closeV s id))))
    simpa using h
  have x5 : Blk wx (w.heap.size + 1 + 1 + 1 + 1 + 1) 61 #[.int .i64 0, .string ⟨#[]⟩, .bool false, .int .i64 (errOf (closeV s id))] := by
    rw [HWX.out]
    have h := (Blk.set_ (Blk.far (Blk.far (Blk.far (Blk.far (Blk.far q5 (p := ⟨w.heap.size + 1 + 1 + 1 + 1, 0, none⟩) (by first | (simp; done) | (simp; omega)) (.slice D0 u.files.length e0)) (p := ⟨w.heap.size + 1 + 1 + 1 + 1, 1, none⟩) (by first | (simp; done) | (simp; omega)) (.slice D1 u.opn.length e1)) (p := ⟨w.heap.size + 1 + 1 + 1 + 1, 2, none⟩) (by first | (simp; done) | (simp; omega)) (.int .i64 u.inp)) (p := ⟨w.heap.size + 1 + 1 + 1 + 1, 3, none⟩) (by first | (simp; done) | (simp; omega)) (.int .i64 u.out)) (p := ⟨w.heap.size + 1 + 1 + 1 + 1, 4, none⟩) (by first | (simp; done) | (simp; omega)) (.int .i64 u.nxt)) 3 (.int .i64 (errOf (closeV s id))))
    simpa using h
  have HFx := Lib.hid (show FreshS wx W.heap.size _ u by
    rw [HWX.out]
    refine FreshS.stay HF.out (fun b' hb' _ => ?_) (by simp)
    repeat rw [heap_setCell_other _ _ _ _ (by simp; omega)])
  try rw [← HWX.out]
  clear q0 q1 q2 q3 q4 q5 z0 z1 z2 z3 z4 y0 y1 y2 y3 fz0 fz1 fz2 fz3 fz4 fy0 fy1 fy2 fy3
  clear HWX
  have s0 := x2.frozen 0
  have ga0 := x2.frozen 0
  have ga1 := x2.frozen 1
  have ga2 := x2.frozen 2
  have ga3 := x2.frozen 3
  have ga4 := x2.frozen 4
  have gb0 := x3.frozen 0
  have gb1 := x3.frozen 1
  have gb2 := x3.frozen 2
  have gb3 := x3.frozen 3
  have ca0 := x2.cell 0
  have ca1 := x2.cell 1
  have ca2 := x2.cell 2
  have ca3 := x2.cell 3
  have ca4 := x2.cell 4
  simp at ca0 ca1 ca2 ca3 ca4
  have cb0 := x3.cell 0
  have cb1 := x3.cell 1
  have cb2 := x3.cell 2
  have cb3 := x3.cell 3
  simp at cb0 cb1 cb2 cb3
  have lx := x5.lt
  refine wp_region_N (fun w' => Blk w' (w.heap.size + 1 + 1 + 1 + 1) 25 #[.slice D0 u.files.length e0, .slice D1 u.opn.length e1, .int .i64 u.inp, .int .i64 u.out, .int .i64 u.nxt] ∧ Blk w' (w.heap.size + 1 + 1 + 1 + 1 + 1) 61 #[.int .i64 0, .string ⟨#[]⟩, .bool false, .int .i64 (errOf (closeV s id))]) (fun j => decide (j < 3)) (by kernel_rfl) ?_
  have hS0 : (fun w' => Blk w' (w.heap.size + 1 + 1 + 1 + 1) 25 #[.slice D0 u.files.length e0, .slice D1 u.opn.length e1, .int .i64 u.inp, .int .i64 u.out, .int .i64 u.nxt] ∧ Blk w' (w.heap.size + 1 + 1 + 1 + 1 + 1) 61 #[.int .i64 0, .string ⟨#[]⟩, .bool false, .int .i64 (errOf (closeV s id))]) wx.drew := ⟨x4, x5⟩
  refine wpAnyN_take (i := 0) (v := ?v9) rfl (by kernel_rfl) (by kernel_rfl) (by kernel_rfl) (by kernel_rfl) (fun _ _ _ h => h) (Or.inl ⟨by rfl, ?hy9⟩) (by assumption) ?_
  case hy9 => intro w hSw; obtain ⟨u4, u5⟩ := hSw; have e0 := u4.cell 0; have e1 := u4.cell 1; have e2 := u4.cell 2; have e3 := u4.cell 3; have e4 := u4.cell 4; have i0 := u5.cell 0; have i1 := u5.cell 1; have i2 := u5.cell 2; have i3 := u5.cell 3; simp at e0 e1 e2 e3 e4 i0 i1 i2 i3; go_simp; try with_reducible rfl
  simp only [Act.put, List.getElem_toArray, List.getElem_cons_zero, List.setIfInBounds_toArray, List.set_cons_zero, List.set_cons_succ]
  refine wpAnyN_take (i := 1) (v := ?v10) rfl (by kernel_rfl) (by kernel_rfl) (by kernel_rfl) (by kernel_rfl) (fun _ _ _ h => h) (Or.inl ⟨by rfl, ?hy10⟩) (by assumption) ?_
  case hy10 => intro w hSw; obtain ⟨u4, u5⟩ := hSw; have e0 := u4.cell 0; have e1 := u4.cell 1; have e2 := u4.cell 2; have e3 := u4.cell 3; have e4 := u4.cell 4; have i0 := u5.cell 0; have i1 := u5.cell 1; have i2 := u5.cell 2; have i3 := u5.cell 3; simp at e0 e1 e2 e3 e4 i0 i1 i2 i3; go_simp; try with_reducible rfl
  simp only [Act.put, List.getElem_toArray, List.getElem_cons_zero, List.getElem_cons_succ, List.setIfInBounds_toArray, List.set_cons_zero, List.set_cons_succ]
  refine wpAnyN_one (i := 2) (by kernel_rfl) rfl (fun K hK => ?_)
  simp only [List.getElem_toArray, List.getElem_cons_zero, List.getElem_cons_succ]
  go_simp
  refine hK _ _ (fun _ => ⟨by refine Blk.drew1 ?_; repeat (first | (with_reducible exact x4) | (with_reducible refine Blk.far ?_ ?_ _); rotate_left; focus (first | (simp; done) | (simp; omega))), by refine Blk.drew1 ?_; repeat (first | (with_reducible exact x5) | (with_reducible refine Blk.far ?_ ?_ _); rotate_left; focus (first | (simp; done) | (simp; omega)))⟩) ?_
  refine wpAnyN_one (i := 3) (by kernel_rfl) rfl (fun K hK => ?_)
  simp only [List.getElem_toArray, List.getElem_cons_zero, List.getElem_cons_succ]
  go_simp
  refine hK _ _ (fun h => absurd h (by decide)) ?_
  refine wpAnyN_done (by kernel_rfl) ?_ _
  go_wp2_with fail
  refine bodyPost_ret (v := .tuple #[.agg #[.slice D0 u.files.length e0, .slice D1 u.opn.length e1, .int .i64 u.inp, .int .i64 u.out, .int .i64 u.nxt], .agg #[.int .i64 0, .string ⟨#[]⟩, .bool false, .int .i64 (errOf (closeV s id))]]) (by simp only [results, Try.results26]; go_simp) rfl ⟨⟨_, rfl, .inl ?_⟩, ?_⟩
  · rw [hu.out]
    show FreshS _ _ _ (u)
    refine FreshS.base (FreshS.stay HFx.out (fun b' hb' _ => ?_) (by simp [World.drew])) (by omega)
    refine (heap_drew _ _).trans ?_
    repeat rw [heap_setCell_other _ _ _ _ (by simp; omega)]
  refine bDrewN ?_ 1
  repeat (first | (with_reducible exact HBx.out) | ((with_reducible refine Below.setCell ?_ ?_ _); rotate_left; focus (first | (simp; done) | (simp; omega))))

set_option maxHeartbeats 4000000 in
set_option maxRecDepth 100000 in
theorem act5 (v : Value) (s : Sm) (id n eof : Int) (name al : ByteArray) (w : World) (hs : SmAt w w.heap.size v s) :
    Calls Try.prog 26 #[v, .agg #[.int .i64 5, .int .i64 id, .int .i64 n, .int .i64 eof, .string name, .string al]] w (RetA v s ((smOf (skipV s id n)), toldS (skipV s id n)) w) := by
  obtain ⟨A0, c0, A1, c1, rfl, hcap, h0, h1⟩ := hs
  have HS : Hid (SmAt w w.heap.size (smV A0 A1 c0 c1 s) s) := ⟨A0, c0, A1, c1, rfl, hcap, h0, h1⟩
  clear h0 h1 hcap
  obtain ⟨W, HWd, hbW, hzW, k0, k1, k2, k3, k4, k5⟩ := six w #[.slice A0 s.files.length c0, .slice A1 s.opn.length c1, .int .i64 s.inp, .int .i64 s.out, .int .i64 s.nxt] #[.int .i64 5, .int .i64 id, .int .i64 n, .int .i64 eof, .string name, .string al]
  have HBW := Lib.hid hbW
  clear hbW
  go_enter Try.func26, Try.ntmps26
  go_wp2_with fail
  rw [← HWd.out]
  refine (skip_any _ s id n _ (HS.out.next HBW.out)).mono ?_
  rintro e w1 ⟨⟨v', rfl, ho⟩, hb1⟩
  have hlen := boundS (r := skipV s id n) (fun _ => skip_valid)
  obtain ⟨u, hu⟩ : ∃ u, Hid ((smOf (skipV s id n)) = u) := ⟨_, rfl⟩
  rw [hu.out] at ho hlen
  replace ho := ho.fresh hlen.1 hlen.2
  have HF := Lib.hid ho
  obtain ⟨D0, e0, D1, e1, hv, -⟩ := ho
  obtain rfl : v' = .agg #[.slice D0 u.files.length e0, .slice D1 u.opn.length e1, .int .i64 u.inp, .int .i64 u.out, .int .i64 u.nxt] := hv
  clear hlen
  have HB1 := Lib.hid (bNext HBW.out hb1)
  have q0 := k0.next hb1
  have q1 := k1.next hb1
  have q2 := k2.next hb1
  have q3 := k3.next hb1
  have q4 := k4.next hb1
  have q5 := k5.next hb1
  clear hb1 k0 k1 k2 k3 k4 k5
  have z0 := q4.cell 0
  have z1 := q4.cell 1
  have z2 := q4.cell 2
  have z3 := q4.cell 3
  have z4 := q4.cell 4
  simp at z0 z1 z2 z3 z4
  have y0 := q5.cell 0
  have y1 := q5.cell 1
  have y2 := q5.cell 2
  have y3 := q5.cell 3
  simp at y0 y1 y2 y3
  have fz0 := q4.frozen 0
  have fz1 := q4.frozen 1
  have fz2 := q4.frozen 2
  have fz3 := q4.frozen 3
  have fz4 := q4.frozen 4
  have fy0 := q5.frozen 0
  have fy1 := q5.frozen 1
  have fy2 := q5.frozen 2
  have fy3 := q5.frozen 3
  have zz := q5.lt
  go_upto_region 25 with fail
  obtain ⟨wx, HWX⟩ : ∃ wx, Hid (wx = ((((((w1.setCell ⟨w.heap.size + 1 + 1 + 1 + 1, 0, none⟩ (.slice D0 u.files.length e0)).setCell ⟨w.heap.size + 1 + 1 + 1 + 1, 1, none⟩ (.slice D1 u.opn.length e1)).setCell ⟨w.heap.size + 1 + 1 + 1 + 1, 2, none⟩ (.int .i64 u.inp)).setCell ⟨w.heap.size + 1 + 1 + 1 + 1, 3, none⟩ (.int .i64 u.out)).setCell ⟨w.heap.size + 1 + 1 + 1 + 1, 4, none⟩ (.int .i64 u.nxt)).setCell ⟨w.heap.size + 1 + 1 + 1 + 1 + 1, 3, none⟩ (.int .i64 (errOf (skipV s id n))))) := ⟨_, rfl⟩
  have HBx := Lib.hid (show Below w.heap.size w wx by rw [HWX.out]; repeat (first | (with_reducible exact HB1.out) | ((with_reducible refine Below.setCell ?_ ?_ _); rotate_left; focus (first | (simp; done) | (simp; omega)))))
  have hzx : wx.heap.size = w1.heap.size := by rw [HWX.out]; simp
  have x2 : Blk wx (w.heap.size + 1 + 1) 25 #[.slice none 0 0, .slice none 0 0, .int .i64 0, .int .i64 0, .int .i64 0] := by
    rw [HWX.out]
    have h := (Blk.far (Blk.far (Blk.far (Blk.far (Blk.far (Blk.far q2 (p := ⟨w.heap.size + 1 + 1 + 1 + 1, 0, none⟩) (by first | (simp; done) | (simp; omega)) (.slice D0 u.files.length e0)) (p := ⟨w.heap.size + 1 + 1 + 1 + 1, 1, none⟩) (by first | (simp; done) | (simp; omega)) (.slice D1 u.opn.length e1)) (p := ⟨w.heap.size + 1 + 1 + 1 + 1, 2, none⟩) (by first | (simp; done) | (simp; omega)) (.int .i64 u.inp)) (p := ⟨w.heap.size + 1 + 1 + 1 + 1, 3, none⟩) (by first | (simp; done) | (simp; omega)) (.int .i64 u.out)) (p := ⟨w.heap.size + 1 + 1 + 1 + 1, 4, none⟩) (by first | (simp; done) | (simp; omega)) (.int .i64 u.nxt)) (p := ⟨w.heap.size + 1 + 1 + 1 + 1 + 1, 3, none⟩) (by first | (simp; done) | (simp; omega)) (.int .i64 (errOf (skipV s id n))))
    simpa using h
  have x3 : Blk wx (w.heap.size + 1 + 1 + 1) 61 #[.int .i64 0, .string ⟨#[]⟩, .bool false, .int .i64 0] := by
    rw [HWX.out]
    have h := (Blk.far (Blk.far (Blk.far (Blk.far (Blk.far (Blk.far q3 (p := ⟨w.heap.size + 1 + 1 + 1 + 1, 0, none⟩) (by first | (simp; done) | (simp; omega)) (.slice D0 u.files.length e0)) (p := ⟨w.heap.size + 1 + 1 + 1 + 1, 1, none⟩) (by first | (simp; done) | (simp; omega)) (.slice D1 u.opn.length e1)) (p := ⟨w.heap.size + 1 + 1 + 1 + 1, 2, none⟩) (by first | (simp; done) | (simp; omega)) (.int .i64 u.inp)) (p := ⟨w.heap.size + 1 + 1 + 1 + 1, 3, none⟩) (by first | (simp; done) | (simp; omega)) (.int .i64 u.out)) (p := ⟨w.heap.size + 1 + 1 + 1 + 1, 4, none⟩) (by first | (simp; done) | (simp; omega)) (.int .i64 u.nxt)) (p := ⟨w.heap.size + 1 + 1 + 1 + 1 + 1, 3, none⟩) (by first | (simp; done) | (simp; omega)) (.int .i64 (errOf (skipV s id n))))
    simpa using h
  have x4 : Blk wx (w.heap.size + 1 + 1 + 1 + 1) 25 #[.slice D0 u.files.length e0, .slice D1 u.opn.length e1, .int .i64 u.inp, .int .i64 u.out, .int .i64 u.nxt] := by
    rw [HWX.out]
    have h := (Blk.far (Blk.set_ (Blk.set_ (Blk.set_ (Blk.set_ (Blk.set_ q4 0 (.slice D0 u.files.length e0)) 1 (.slice D1 u.opn.length e1)) 2 (.int .i64 u.inp)) 3 (.int .i64 u.out)) 4 (.int .i64 u.nxt)) (p := ⟨w.heap.size + 1 + 1 + 1 + 1 + 1, 3, none⟩) (by first | (simp; done) | (simp; omega)) (.int .i64 (errOf (skipV s id n))))
    simpa using h
  have x5 : Blk wx (w.heap.size + 1 + 1 + 1 + 1 + 1) 61 #[.int .i64 0, .string ⟨#[]⟩, .bool false, .int .i64 (errOf (skipV s id n))] := by
    rw [HWX.out]
    have h := (Blk.set_ (Blk.far (Blk.far (Blk.far (Blk.far (Blk.far q5 (p := ⟨w.heap.size + 1 + 1 + 1 + 1, 0, none⟩) (by first | (simp; done) | (simp; omega)) (.slice D0 u.files.length e0)) (p := ⟨w.heap.size + 1 + 1 + 1 + 1, 1, none⟩) (by first | (simp; done) | (simp; omega)) (.slice D1 u.opn.length e1)) (p := ⟨w.heap.size + 1 + 1 + 1 + 1, 2, none⟩) (by first | (simp; done) | (simp; omega)) (.int .i64 u.inp)) (p := ⟨w.heap.size + 1 + 1 + 1 + 1, 3, none⟩) (by first | (simp; done) | (simp; omega)) (.int .i64 u.out)) (p := ⟨w.heap.size + 1 + 1 + 1 + 1, 4, none⟩) (by first | (simp; done) | (simp; omega)) (.int .i64 u.nxt)) 3 (.int .i64 (errOf (skipV s id n))))
    simpa using h
  have HFx := Lib.hid (show FreshS wx W.heap.size _ u by
    rw [HWX.out]
    refine FreshS.stay HF.out (fun b' hb' _ => ?_) (by simp)
    repeat rw [heap_setCell_other _ _ _ _ (by simp; omega)])
  try rw [← HWX.out]
  clear q0 q1 q2 q3 q4 q5 z0 z1 z2 z3 z4 y0 y1 y2 y3 fz0 fz1 fz2 fz3 fz4 fy0 fy1 fy2 fy3
  clear HWX
  have s0 := x2.frozen 0
  have ga0 := x2.frozen 0
  have ga1 := x2.frozen 1
  have ga2 := x2.frozen 2
  have ga3 := x2.frozen 3
  have ga4 := x2.frozen 4
  have gb0 := x3.frozen 0
  have gb1 := x3.frozen 1
  have gb2 := x3.frozen 2
  have gb3 := x3.frozen 3
  have ca0 := x2.cell 0
  have ca1 := x2.cell 1
  have ca2 := x2.cell 2
  have ca3 := x2.cell 3
  have ca4 := x2.cell 4
  simp at ca0 ca1 ca2 ca3 ca4
  have cb0 := x3.cell 0
  have cb1 := x3.cell 1
  have cb2 := x3.cell 2
  have cb3 := x3.cell 3
  simp at cb0 cb1 cb2 cb3
  have lx := x5.lt
  refine wp_region_N (fun w' => Blk w' (w.heap.size + 1 + 1 + 1 + 1) 25 #[.slice D0 u.files.length e0, .slice D1 u.opn.length e1, .int .i64 u.inp, .int .i64 u.out, .int .i64 u.nxt] ∧ Blk w' (w.heap.size + 1 + 1 + 1 + 1 + 1) 61 #[.int .i64 0, .string ⟨#[]⟩, .bool false, .int .i64 (errOf (skipV s id n))]) (fun j => decide (j < 3)) (by kernel_rfl) ?_
  have hS0 : (fun w' => Blk w' (w.heap.size + 1 + 1 + 1 + 1) 25 #[.slice D0 u.files.length e0, .slice D1 u.opn.length e1, .int .i64 u.inp, .int .i64 u.out, .int .i64 u.nxt] ∧ Blk w' (w.heap.size + 1 + 1 + 1 + 1 + 1) 61 #[.int .i64 0, .string ⟨#[]⟩, .bool false, .int .i64 (errOf (skipV s id n))]) wx.drew := ⟨x4, x5⟩
  refine wpAnyN_take (i := 0) (v := ?v11) rfl (by kernel_rfl) (by kernel_rfl) (by kernel_rfl) (by kernel_rfl) (fun _ _ _ h => h) (Or.inl ⟨by rfl, ?hy11⟩) (by assumption) ?_
  case hy11 => intro w hSw; obtain ⟨u4, u5⟩ := hSw; have e0 := u4.cell 0; have e1 := u4.cell 1; have e2 := u4.cell 2; have e3 := u4.cell 3; have e4 := u4.cell 4; have i0 := u5.cell 0; have i1 := u5.cell 1; have i2 := u5.cell 2; have i3 := u5.cell 3; simp at e0 e1 e2 e3 e4 i0 i1 i2 i3; go_simp; try with_reducible rfl
  simp only [Act.put, List.getElem_toArray, List.getElem_cons_zero, List.setIfInBounds_toArray, List.set_cons_zero, List.set_cons_succ]
  refine wpAnyN_take (i := 1) (v := ?v12) rfl (by kernel_rfl) (by kernel_rfl) (by kernel_rfl) (by kernel_rfl) (fun _ _ _ h => h) (Or.inl ⟨by rfl, ?hy12⟩) (by assumption) ?_
  case hy12 => intro w hSw; obtain ⟨u4, u5⟩ := hSw; have e0 := u4.cell 0; have e1 := u4.cell 1; have e2 := u4.cell 2; have e3 := u4.cell 3; have e4 := u4.cell 4; have i0 := u5.cell 0; have i1 := u5.cell 1; have i2 := u5.cell 2; have i3 := u5.cell 3; simp at e0 e1 e2 e3 e4 i0 i1 i2 i3; go_simp; try with_reducible rfl
  simp only [Act.put, List.getElem_toArray, List.getElem_cons_zero, List.getElem_cons_succ, List.setIfInBounds_toArray, List.set_cons_zero, List.set_cons_succ]
  refine wpAnyN_one (i := 2) (by kernel_rfl) rfl (fun K hK => ?_)
  simp only [List.getElem_toArray, List.getElem_cons_zero, List.getElem_cons_succ]
  go_simp
  refine hK _ _ (fun _ => ⟨by refine Blk.drew1 ?_; repeat (first | (with_reducible exact x4) | (with_reducible refine Blk.far ?_ ?_ _); rotate_left; focus (first | (simp; done) | (simp; omega))), by refine Blk.drew1 ?_; repeat (first | (with_reducible exact x5) | (with_reducible refine Blk.far ?_ ?_ _); rotate_left; focus (first | (simp; done) | (simp; omega)))⟩) ?_
  refine wpAnyN_one (i := 3) (by kernel_rfl) rfl (fun K hK => ?_)
  simp only [List.getElem_toArray, List.getElem_cons_zero, List.getElem_cons_succ]
  go_simp
  refine hK _ _ (fun h => absurd h (by decide)) ?_
  refine wpAnyN_done (by kernel_rfl) ?_ _
  go_wp2_with fail
  refine bodyPost_ret (v := .tuple #[.agg #[.slice D0 u.files.length e0, .slice D1 u.opn.length e1, .int .i64 u.inp, .int .i64 u.out, .int .i64 u.nxt], .agg #[.int .i64 0, .string ⟨#[]⟩, .bool false, .int .i64 (errOf (skipV s id n))]]) (by simp only [results, Try.results26]; go_simp) rfl ⟨⟨_, rfl, .inl ?_⟩, ?_⟩
  · rw [hu.out]
    show FreshS _ _ _ (u)
    refine FreshS.base (FreshS.stay HFx.out (fun b' hb' _ => ?_) (by simp [World.drew])) (by omega)
    refine (heap_drew _ _).trans ?_
    repeat rw [heap_setCell_other _ _ _ _ (by simp; omega)]
  refine bDrewN ?_ 1
  repeat (first | (with_reducible exact HBx.out) | ((with_reducible refine Below.setCell ?_ ?_ _); rotate_left; focus (first | (simp; done) | (simp; omega))))

set_option maxHeartbeats 4000000 in
set_option maxRecDepth 100000 in
theorem act6 (v : Value) (s : Sm) (id n eof : Int) (name al : ByteArray) (w : World) (hs : SmAt w w.heap.size v s) :
    Calls Try.prog 26 #[v, .agg #[.int .i64 6, .int .i64 id, .int .i64 n, .int .i64 eof, .string name, .string al]] w (RetA v s ((smOf (putV s id name)), toldS (putV s id name)) w) := by
  obtain ⟨A0, c0, A1, c1, rfl, hcap, h0, h1⟩ := hs
  have HS : Hid (SmAt w w.heap.size (smV A0 A1 c0 c1 s) s) := ⟨A0, c0, A1, c1, rfl, hcap, h0, h1⟩
  clear h0 h1 hcap
  obtain ⟨W, HWd, hbW, hzW, k0, k1, k2, k3, k4, k5⟩ := six w #[.slice A0 s.files.length c0, .slice A1 s.opn.length c1, .int .i64 s.inp, .int .i64 s.out, .int .i64 s.nxt] #[.int .i64 6, .int .i64 id, .int .i64 n, .int .i64 eof, .string name, .string al]
  have HBW := Lib.hid hbW
  clear hbW
  go_enter Try.func26, Try.ntmps26
  go_wp2_with fail
  rw [← HWd.out]
  refine (Put_any _ s id name _ (HS.out.next HBW.out)).mono ?_
  rintro e w1 ⟨⟨v', rfl, ho⟩, hb1⟩
  have hlen := boundS (r := putV s id name) (fun _ => put_valid)
  obtain ⟨u, hu⟩ : ∃ u, Hid ((smOf (putV s id name)) = u) := ⟨_, rfl⟩
  rw [hu.out] at ho hlen
  replace ho := ho.fresh hlen.1 hlen.2
  have HF := Lib.hid ho
  obtain ⟨D0, e0, D1, e1, hv, -⟩ := ho
  obtain rfl : v' = .agg #[.slice D0 u.files.length e0, .slice D1 u.opn.length e1, .int .i64 u.inp, .int .i64 u.out, .int .i64 u.nxt] := hv
  clear hlen
  have HB1 := Lib.hid (bNext HBW.out hb1)
  have q0 := k0.next hb1
  have q1 := k1.next hb1
  have q2 := k2.next hb1
  have q3 := k3.next hb1
  have q4 := k4.next hb1
  have q5 := k5.next hb1
  clear hb1 k0 k1 k2 k3 k4 k5
  have z0 := q4.cell 0
  have z1 := q4.cell 1
  have z2 := q4.cell 2
  have z3 := q4.cell 3
  have z4 := q4.cell 4
  simp at z0 z1 z2 z3 z4
  have y0 := q5.cell 0
  have y1 := q5.cell 1
  have y2 := q5.cell 2
  have y3 := q5.cell 3
  simp at y0 y1 y2 y3
  have fz0 := q4.frozen 0
  have fz1 := q4.frozen 1
  have fz2 := q4.frozen 2
  have fz3 := q4.frozen 3
  have fz4 := q4.frozen 4
  have fy0 := q5.frozen 0
  have fy1 := q5.frozen 1
  have fy2 := q5.frozen 2
  have fy3 := q5.frozen 3
  have zz := q5.lt
  go_upto_region 25 with fail
  obtain ⟨wx, HWX⟩ : ∃ wx, Hid (wx = ((((((w1.setCell ⟨w.heap.size + 1 + 1 + 1 + 1, 0, none⟩ (.slice D0 u.files.length e0)).setCell ⟨w.heap.size + 1 + 1 + 1 + 1, 1, none⟩ (.slice D1 u.opn.length e1)).setCell ⟨w.heap.size + 1 + 1 + 1 + 1, 2, none⟩ (.int .i64 u.inp)).setCell ⟨w.heap.size + 1 + 1 + 1 + 1, 3, none⟩ (.int .i64 u.out)).setCell ⟨w.heap.size + 1 + 1 + 1 + 1, 4, none⟩ (.int .i64 u.nxt)).setCell ⟨w.heap.size + 1 + 1 + 1 + 1 + 1, 3, none⟩ (.int .i64 (errOf (putV s id name))))) := ⟨_, rfl⟩
  have HBx := Lib.hid (show Below w.heap.size w wx by rw [HWX.out]; repeat (first | (with_reducible exact HB1.out) | ((with_reducible refine Below.setCell ?_ ?_ _); rotate_left; focus (first | (simp; done) | (simp; omega)))))
  have hzx : wx.heap.size = w1.heap.size := by rw [HWX.out]; simp
  have x2 : Blk wx (w.heap.size + 1 + 1) 25 #[.slice none 0 0, .slice none 0 0, .int .i64 0, .int .i64 0, .int .i64 0] := by
    rw [HWX.out]
    have h := (Blk.far (Blk.far (Blk.far (Blk.far (Blk.far (Blk.far q2 (p := ⟨w.heap.size + 1 + 1 + 1 + 1, 0, none⟩) (by first | (simp; done) | (simp; omega)) (.slice D0 u.files.length e0)) (p := ⟨w.heap.size + 1 + 1 + 1 + 1, 1, none⟩) (by first | (simp; done) | (simp; omega)) (.slice D1 u.opn.length e1)) (p := ⟨w.heap.size + 1 + 1 + 1 + 1, 2, none⟩) (by first | (simp; done) | (simp; omega)) (.int .i64 u.inp)) (p := ⟨w.heap.size + 1 + 1 + 1 + 1, 3, none⟩) (by first | (simp; done) | (simp; omega)) (.int .i64 u.out)) (p := ⟨w.heap.size + 1 + 1 + 1 + 1, 4, none⟩) (by first | (simp; done) | (simp; omega)) (.int .i64 u.nxt)) (p := ⟨w.heap.size + 1 + 1 + 1 + 1 + 1, 3, none⟩) (by first | (simp; done) | (simp; omega)) (.int .i64 (errOf (putV s id name))))
    simpa using h
  have x3 : Blk wx (w.heap.size + 1 + 1 + 1) 61 #[.int .i64 0, .string ⟨#[]⟩, .bool false, .int .i64 0] := by
    rw [HWX.out]
    have h := (Blk.far (Blk.far (Blk.far (Blk.far (Blk.far (Blk.far q3 (p := ⟨w.heap.size + 1 + 1 + 1 + 1, 0, none⟩) (by first | (simp; done) | (simp; omega)) (.slice D0 u.files.length e0)) (p := ⟨w.heap.size + 1 + 1 + 1 + 1, 1, none⟩) (by first | (simp; done) | (simp; omega)) (.slice D1 u.opn.length e1)) (p := ⟨w.heap.size + 1 + 1 + 1 + 1, 2, none⟩) (by first | (simp; done) | (simp; omega)) (.int .i64 u.inp)) (p := ⟨w.heap.size + 1 + 1 + 1 + 1, 3, none⟩) (by first | (simp; done) | (simp; omega)) (.int .i64 u.out)) (p := ⟨w.heap.size + 1 + 1 + 1 + 1, 4, none⟩) (by first | (simp; done) | (simp; omega)) (.int .i64 u.nxt)) (p := ⟨w.heap.size + 1 + 1 + 1 + 1 + 1, 3, none⟩) (by first | (simp; done) | (simp; omega)) (.int .i64 (errOf (putV s id name))))
    simpa using h
  have x4 : Blk wx (w.heap.size + 1 + 1 + 1 + 1) 25 #[.slice D0 u.files.length e0, .slice D1 u.opn.length e1, .int .i64 u.inp, .int .i64 u.out, .int .i64 u.nxt] := by
    rw [HWX.out]
    have h := (Blk.far (Blk.set_ (Blk.set_ (Blk.set_ (Blk.set_ (Blk.set_ q4 0 (.slice D0 u.files.length e0)) 1 (.slice D1 u.opn.length e1)) 2 (.int .i64 u.inp)) 3 (.int .i64 u.out)) 4 (.int .i64 u.nxt)) (p := ⟨w.heap.size + 1 + 1 + 1 + 1 + 1, 3, none⟩) (by first | (simp; done) | (simp; omega)) (.int .i64 (errOf (putV s id name))))
    simpa using h
  have x5 : Blk wx (w.heap.size + 1 + 1 + 1 + 1 + 1) 61 #[.int .i64 0, .string ⟨#[]⟩, .bool false, .int .i64 (errOf (putV s id name))] := by
    rw [HWX.out]
    have h := (Blk.set_ (Blk.far (Blk.far (Blk.far (Blk.far (Blk.far q5 (p := ⟨w.heap.size + 1 + 1 + 1 + 1, 0, none⟩) (by first | (simp; done) | (simp; omega)) (.slice D0 u.files.length e0)) (p := ⟨w.heap.size + 1 + 1 + 1 + 1, 1, none⟩) (by first | (simp; done) | (simp; omega)) (.slice D1 u.opn.length e1)) (p := ⟨w.heap.size + 1 + 1 + 1 + 1, 2, none⟩) (by first | (simp; done) | (simp; omega)) (.int .i64 u.inp)) (p := ⟨w.heap.size + 1 + 1 + 1 + 1, 3, none⟩) (by first | (simp; done) | (simp; omega)) (.int .i64 u.out)) (p := ⟨w.heap.size + 1 + 1 + 1 + 1, 4, none⟩) (by first | (simp; done) | (simp; omega)) (.int .i64 u.nxt)) 3 (.int .i64 (errOf (putV s id name))))
    simpa using h
  have HFx := Lib.hid (show FreshS wx W.heap.size _ u by
    rw [HWX.out]
    refine FreshS.stay HF.out (fun b' hb' _ => ?_) (by simp)
    repeat rw [heap_setCell_other _ _ _ _ (by simp; omega)])
  try rw [← HWX.out]
  clear q0 q1 q2 q3 q4 q5 z0 z1 z2 z3 z4 y0 y1 y2 y3 fz0 fz1 fz2 fz3 fz4 fy0 fy1 fy2 fy3
  clear HWX
  have s0 := x2.frozen 0
  have ga0 := x2.frozen 0
  have ga1 := x2.frozen 1
  have ga2 := x2.frozen 2
  have ga3 := x2.frozen 3
  have ga4 := x2.frozen 4
  have gb0 := x3.frozen 0
  have gb1 := x3.frozen 1
  have gb2 := x3.frozen 2
  have gb3 := x3.frozen 3
  have ca0 := x2.cell 0
  have ca1 := x2.cell 1
  have ca2 := x2.cell 2
  have ca3 := x2.cell 3
  have ca4 := x2.cell 4
  simp at ca0 ca1 ca2 ca3 ca4
  have cb0 := x3.cell 0
  have cb1 := x3.cell 1
  have cb2 := x3.cell 2
  have cb3 := x3.cell 3
  simp at cb0 cb1 cb2 cb3
  have lx := x5.lt
  refine wp_region_N (fun w' => Blk w' (w.heap.size + 1 + 1 + 1 + 1) 25 #[.slice D0 u.files.length e0, .slice D1 u.opn.length e1, .int .i64 u.inp, .int .i64 u.out, .int .i64 u.nxt] ∧ Blk w' (w.heap.size + 1 + 1 + 1 + 1 + 1) 61 #[.int .i64 0, .string ⟨#[]⟩, .bool false, .int .i64 (errOf (putV s id name))]) (fun j => decide (j < 3)) (by kernel_rfl) ?_
  have hS0 : (fun w' => Blk w' (w.heap.size + 1 + 1 + 1 + 1) 25 #[.slice D0 u.files.length e0, .slice D1 u.opn.length e1, .int .i64 u.inp, .int .i64 u.out, .int .i64 u.nxt] ∧ Blk w' (w.heap.size + 1 + 1 + 1 + 1 + 1) 61 #[.int .i64 0, .string ⟨#[]⟩, .bool false, .int .i64 (errOf (putV s id name))]) wx.drew := ⟨x4, x5⟩
  refine wpAnyN_take (i := 0) (v := ?v13) rfl (by kernel_rfl) (by kernel_rfl) (by kernel_rfl) (by kernel_rfl) (fun _ _ _ h => h) (Or.inl ⟨by rfl, ?hy13⟩) (by assumption) ?_
  case hy13 => intro w hSw; obtain ⟨u4, u5⟩ := hSw; have e0 := u4.cell 0; have e1 := u4.cell 1; have e2 := u4.cell 2; have e3 := u4.cell 3; have e4 := u4.cell 4; have i0 := u5.cell 0; have i1 := u5.cell 1; have i2 := u5.cell 2; have i3 := u5.cell 3; simp at e0 e1 e2 e3 e4 i0 i1 i2 i3; go_simp; try with_reducible rfl
  simp only [Act.put, List.getElem_toArray, List.getElem_cons_zero, List.setIfInBounds_toArray, List.set_cons_zero, List.set_cons_succ]
  refine wpAnyN_take (i := 1) (v := ?v14) rfl (by kernel_rfl) (by kernel_rfl) (by kernel_rfl) (by kernel_rfl) (fun _ _ _ h => h) (Or.inl ⟨by rfl, ?hy14⟩) (by assumption) ?_
  case hy14 => intro w hSw; obtain ⟨u4, u5⟩ := hSw; have e0 := u4.cell 0; have e1 := u4.cell 1; have e2 := u4.cell 2; have e3 := u4.cell 3; have e4 := u4.cell 4; have i0 := u5.cell 0; have i1 := u5.cell 1; have i2 := u5.cell 2; have i3 := u5.cell 3; simp at e0 e1 e2 e3 e4 i0 i1 i2 i3; go_simp; try with_reducible rfl
  simp only [Act.put, List.getElem_toArray, List.getElem_cons_zero, List.getElem_cons_succ, List.setIfInBounds_toArray, List.set_cons_zero, List.set_cons_succ]
  refine wpAnyN_one (i := 2) (by kernel_rfl) rfl (fun K hK => ?_)
  simp only [List.getElem_toArray, List.getElem_cons_zero, List.getElem_cons_succ]
  go_simp
  refine hK _ _ (fun _ => ⟨by refine Blk.drew1 ?_; repeat (first | (with_reducible exact x4) | (with_reducible refine Blk.far ?_ ?_ _); rotate_left; focus (first | (simp; done) | (simp; omega))), by refine Blk.drew1 ?_; repeat (first | (with_reducible exact x5) | (with_reducible refine Blk.far ?_ ?_ _); rotate_left; focus (first | (simp; done) | (simp; omega)))⟩) ?_
  refine wpAnyN_one (i := 3) (by kernel_rfl) rfl (fun K hK => ?_)
  simp only [List.getElem_toArray, List.getElem_cons_zero, List.getElem_cons_succ]
  go_simp
  refine hK _ _ (fun h => absurd h (by decide)) ?_
  refine wpAnyN_done (by kernel_rfl) ?_ _
  go_wp2_with fail
  refine bodyPost_ret (v := .tuple #[.agg #[.slice D0 u.files.length e0, .slice D1 u.opn.length e1, .int .i64 u.inp, .int .i64 u.out, .int .i64 u.nxt], .agg #[.int .i64 0, .string ⟨#[]⟩, .bool false, .int .i64 (errOf (putV s id name))]]) (by simp only [results, Try.results26]; go_simp) rfl ⟨⟨_, rfl, .inl ?_⟩, ?_⟩
  · rw [hu.out]
    show FreshS _ _ _ (u)
    refine FreshS.base (FreshS.stay HFx.out (fun b' hb' _ => ?_) (by simp [World.drew])) (by omega)
    refine (heap_drew _ _).trans ?_
    repeat rw [heap_setCell_other _ _ _ _ (by simp; omega)]
  refine bDrewN ?_ 1
  repeat (first | (with_reducible exact HBx.out) | ((with_reducible refine Below.setCell ?_ ?_ _); rotate_left; focus (first | (simp; done) | (simp; omega))))

set_option maxHeartbeats 4000000 in
set_option maxRecDepth 100000 in
theorem act8 (v : Value) (s : Sm) (id n eof : Int) (name al : ByteArray) (w : World) (hs : SmAt w w.heap.size v s) :
    Calls Try.prog 26 #[v, .agg #[.int .i64 8, .int .i64 id, .int .i64 n, .int .i64 eof, .string name, .string al]] w (RetA v s ((smOf (useV s id)), toldS (useV s id)) w) := by
  obtain ⟨A0, c0, A1, c1, rfl, hcap, h0, h1⟩ := hs
  have HS : Hid (SmAt w w.heap.size (smV A0 A1 c0 c1 s) s) := ⟨A0, c0, A1, c1, rfl, hcap, h0, h1⟩
  clear h0 h1 hcap
  obtain ⟨W, HWd, hbW, hzW, k0, k1, k2, k3, k4, k5⟩ := six w #[.slice A0 s.files.length c0, .slice A1 s.opn.length c1, .int .i64 s.inp, .int .i64 s.out, .int .i64 s.nxt] #[.int .i64 8, .int .i64 id, .int .i64 n, .int .i64 eof, .string name, .string al]
  have HBW := Lib.hid hbW
  clear hbW
  go_enter Try.func26, Try.ntmps26
  go_wp2_with fail
  rw [← HWd.out]
  refine (use_any _ s id _ (HS.out.next HBW.out)).mono ?_
  rintro e w1 ⟨⟨v', rfl, ho⟩, hb1⟩
  have hlen := boundS (r := useV s id) (fun _ => use_valid)
  obtain ⟨u, hu⟩ : ∃ u, Hid ((smOf (useV s id)) = u) := ⟨_, rfl⟩
  rw [hu.out] at ho hlen
  replace ho := ho.fresh hlen.1 hlen.2
  have HF := Lib.hid ho
  obtain ⟨D0, e0, D1, e1, hv, -⟩ := ho
  obtain rfl : v' = .agg #[.slice D0 u.files.length e0, .slice D1 u.opn.length e1, .int .i64 u.inp, .int .i64 u.out, .int .i64 u.nxt] := hv
  clear hlen
  have HB1 := Lib.hid (bNext HBW.out hb1)
  have q0 := k0.next hb1
  have q1 := k1.next hb1
  have q2 := k2.next hb1
  have q3 := k3.next hb1
  have q4 := k4.next hb1
  have q5 := k5.next hb1
  clear hb1 k0 k1 k2 k3 k4 k5
  have z0 := q4.cell 0
  have z1 := q4.cell 1
  have z2 := q4.cell 2
  have z3 := q4.cell 3
  have z4 := q4.cell 4
  simp at z0 z1 z2 z3 z4
  have y0 := q5.cell 0
  have y1 := q5.cell 1
  have y2 := q5.cell 2
  have y3 := q5.cell 3
  simp at y0 y1 y2 y3
  have fz0 := q4.frozen 0
  have fz1 := q4.frozen 1
  have fz2 := q4.frozen 2
  have fz3 := q4.frozen 3
  have fz4 := q4.frozen 4
  have fy0 := q5.frozen 0
  have fy1 := q5.frozen 1
  have fy2 := q5.frozen 2
  have fy3 := q5.frozen 3
  have zz := q5.lt
  go_upto_region 25 with fail
  obtain ⟨wx, HWX⟩ : ∃ wx, Hid (wx = ((((((w1.setCell ⟨w.heap.size + 1 + 1 + 1 + 1, 0, none⟩ (.slice D0 u.files.length e0)).setCell ⟨w.heap.size + 1 + 1 + 1 + 1, 1, none⟩ (.slice D1 u.opn.length e1)).setCell ⟨w.heap.size + 1 + 1 + 1 + 1, 2, none⟩ (.int .i64 u.inp)).setCell ⟨w.heap.size + 1 + 1 + 1 + 1, 3, none⟩ (.int .i64 u.out)).setCell ⟨w.heap.size + 1 + 1 + 1 + 1, 4, none⟩ (.int .i64 u.nxt)).setCell ⟨w.heap.size + 1 + 1 + 1 + 1 + 1, 3, none⟩ (.int .i64 (errOf (useV s id))))) := ⟨_, rfl⟩
  have HBx := Lib.hid (show Below w.heap.size w wx by rw [HWX.out]; repeat (first | (with_reducible exact HB1.out) | ((with_reducible refine Below.setCell ?_ ?_ _); rotate_left; focus (first | (simp; done) | (simp; omega)))))
  have hzx : wx.heap.size = w1.heap.size := by rw [HWX.out]; simp
  have x2 : Blk wx (w.heap.size + 1 + 1) 25 #[.slice none 0 0, .slice none 0 0, .int .i64 0, .int .i64 0, .int .i64 0] := by
    rw [HWX.out]
    have h := (Blk.far (Blk.far (Blk.far (Blk.far (Blk.far (Blk.far q2 (p := ⟨w.heap.size + 1 + 1 + 1 + 1, 0, none⟩) (by first | (simp; done) | (simp; omega)) (.slice D0 u.files.length e0)) (p := ⟨w.heap.size + 1 + 1 + 1 + 1, 1, none⟩) (by first | (simp; done) | (simp; omega)) (.slice D1 u.opn.length e1)) (p := ⟨w.heap.size + 1 + 1 + 1 + 1, 2, none⟩) (by first | (simp; done) | (simp; omega)) (.int .i64 u.inp)) (p := ⟨w.heap.size + 1 + 1 + 1 + 1, 3, none⟩) (by first | (simp; done) | (simp; omega)) (.int .i64 u.out)) (p := ⟨w.heap.size + 1 + 1 + 1 + 1, 4, none⟩) (by first | (simp; done) | (simp; omega)) (.int .i64 u.nxt)) (p := ⟨w.heap.size + 1 + 1 + 1 + 1 + 1, 3, none⟩) (by first | (simp; done) | (simp; omega)) (.int .i64 (errOf (useV s id))))
    simpa using h
  have x3 : Blk wx (w.heap.size + 1 + 1 + 1) 61 #[.int .i64 0, .string ⟨#[]⟩, .bool false, .int .i64 0] := by
    rw [HWX.out]
    have h := (Blk.far (Blk.far (Blk.far (Blk.far (Blk.far (Blk.far q3 (p := ⟨w.heap.size + 1 + 1 + 1 + 1, 0, none⟩) (by first | (simp; done) | (simp; omega)) (.slice D0 u.files.length e0)) (p := ⟨w.heap.size + 1 + 1 + 1 + 1, 1, none⟩) (by first | (simp; done) | (simp; omega)) (.slice D1 u.opn.length e1)) (p := ⟨w.heap.size + 1 + 1 + 1 + 1, 2, none⟩) (by first | (simp; done) | (simp; omega)) (.int .i64 u.inp)) (p := ⟨w.heap.size + 1 + 1 + 1 + 1, 3, none⟩) (by first | (simp; done) | (simp; omega)) (.int .i64 u.out)) (p := ⟨w.heap.size + 1 + 1 + 1 + 1, 4, none⟩) (by first | (simp; done) | (simp; omega)) (.int .i64 u.nxt)) (p := ⟨w.heap.size + 1 + 1 + 1 + 1 + 1, 3, none⟩) (by first | (simp; done) | (simp; omega)) (.int .i64 (errOf (useV s id))))
    simpa using h
  have x4 : Blk wx (w.heap.size + 1 + 1 + 1 + 1) 25 #[.slice D0 u.files.length e0, .slice D1 u.opn.length e1, .int .i64 u.inp, .int .i64 u.out, .int .i64 u.nxt] := by
    rw [HWX.out]
    have h := (Blk.far (Blk.set_ (Blk.set_ (Blk.set_ (Blk.set_ (Blk.set_ q4 0 (.slice D0 u.files.length e0)) 1 (.slice D1 u.opn.length e1)) 2 (.int .i64 u.inp)) 3 (.int .i64 u.out)) 4 (.int .i64 u.nxt)) (p := ⟨w.heap.size + 1 + 1 + 1 + 1 + 1, 3, none⟩) (by first | (simp; done) | (simp; omega)) (.int .i64 (errOf (useV s id))))
    simpa using h
  have x5 : Blk wx (w.heap.size + 1 + 1 + 1 + 1 + 1) 61 #[.int .i64 0, .string ⟨#[]⟩, .bool false, .int .i64 (errOf (useV s id))] := by
    rw [HWX.out]
    have h := (Blk.set_ (Blk.far (Blk.far (Blk.far (Blk.far (Blk.far q5 (p := ⟨w.heap.size + 1 + 1 + 1 + 1, 0, none⟩) (by first | (simp; done) | (simp; omega)) (.slice D0 u.files.length e0)) (p := ⟨w.heap.size + 1 + 1 + 1 + 1, 1, none⟩) (by first | (simp; done) | (simp; omega)) (.slice D1 u.opn.length e1)) (p := ⟨w.heap.size + 1 + 1 + 1 + 1, 2, none⟩) (by first | (simp; done) | (simp; omega)) (.int .i64 u.inp)) (p := ⟨w.heap.size + 1 + 1 + 1 + 1, 3, none⟩) (by first | (simp; done) | (simp; omega)) (.int .i64 u.out)) (p := ⟨w.heap.size + 1 + 1 + 1 + 1, 4, none⟩) (by first | (simp; done) | (simp; omega)) (.int .i64 u.nxt)) 3 (.int .i64 (errOf (useV s id))))
    simpa using h
  have HFx := Lib.hid (show FreshS wx W.heap.size _ u by
    rw [HWX.out]
    refine FreshS.stay HF.out (fun b' hb' _ => ?_) (by simp)
    repeat rw [heap_setCell_other _ _ _ _ (by simp; omega)])
  try rw [← HWX.out]
  clear q0 q1 q2 q3 q4 q5 z0 z1 z2 z3 z4 y0 y1 y2 y3 fz0 fz1 fz2 fz3 fz4 fy0 fy1 fy2 fy3
  clear HWX
  have s0 := x2.frozen 0
  have ga0 := x2.frozen 0
  have ga1 := x2.frozen 1
  have ga2 := x2.frozen 2
  have ga3 := x2.frozen 3
  have ga4 := x2.frozen 4
  have gb0 := x3.frozen 0
  have gb1 := x3.frozen 1
  have gb2 := x3.frozen 2
  have gb3 := x3.frozen 3
  have ca0 := x2.cell 0
  have ca1 := x2.cell 1
  have ca2 := x2.cell 2
  have ca3 := x2.cell 3
  have ca4 := x2.cell 4
  simp at ca0 ca1 ca2 ca3 ca4
  have cb0 := x3.cell 0
  have cb1 := x3.cell 1
  have cb2 := x3.cell 2
  have cb3 := x3.cell 3
  simp at cb0 cb1 cb2 cb3
  have lx := x5.lt
  refine wp_region_N (fun w' => Blk w' (w.heap.size + 1 + 1 + 1 + 1) 25 #[.slice D0 u.files.length e0, .slice D1 u.opn.length e1, .int .i64 u.inp, .int .i64 u.out, .int .i64 u.nxt] ∧ Blk w' (w.heap.size + 1 + 1 + 1 + 1 + 1) 61 #[.int .i64 0, .string ⟨#[]⟩, .bool false, .int .i64 (errOf (useV s id))]) (fun j => decide (j < 3)) (by kernel_rfl) ?_
  have hS0 : (fun w' => Blk w' (w.heap.size + 1 + 1 + 1 + 1) 25 #[.slice D0 u.files.length e0, .slice D1 u.opn.length e1, .int .i64 u.inp, .int .i64 u.out, .int .i64 u.nxt] ∧ Blk w' (w.heap.size + 1 + 1 + 1 + 1 + 1) 61 #[.int .i64 0, .string ⟨#[]⟩, .bool false, .int .i64 (errOf (useV s id))]) wx.drew := ⟨x4, x5⟩
  refine wpAnyN_take (i := 0) (v := ?v15) rfl (by kernel_rfl) (by kernel_rfl) (by kernel_rfl) (by kernel_rfl) (fun _ _ _ h => h) (Or.inl ⟨by rfl, ?hy15⟩) (by assumption) ?_
  case hy15 => intro w hSw; obtain ⟨u4, u5⟩ := hSw; have e0 := u4.cell 0; have e1 := u4.cell 1; have e2 := u4.cell 2; have e3 := u4.cell 3; have e4 := u4.cell 4; have i0 := u5.cell 0; have i1 := u5.cell 1; have i2 := u5.cell 2; have i3 := u5.cell 3; simp at e0 e1 e2 e3 e4 i0 i1 i2 i3; go_simp; try with_reducible rfl
  simp only [Act.put, List.getElem_toArray, List.getElem_cons_zero, List.setIfInBounds_toArray, List.set_cons_zero, List.set_cons_succ]
  refine wpAnyN_take (i := 1) (v := ?v16) rfl (by kernel_rfl) (by kernel_rfl) (by kernel_rfl) (by kernel_rfl) (fun _ _ _ h => h) (Or.inl ⟨by rfl, ?hy16⟩) (by assumption) ?_
  case hy16 => intro w hSw; obtain ⟨u4, u5⟩ := hSw; have e0 := u4.cell 0; have e1 := u4.cell 1; have e2 := u4.cell 2; have e3 := u4.cell 3; have e4 := u4.cell 4; have i0 := u5.cell 0; have i1 := u5.cell 1; have i2 := u5.cell 2; have i3 := u5.cell 3; simp at e0 e1 e2 e3 e4 i0 i1 i2 i3; go_simp; try with_reducible rfl
  simp only [Act.put, List.getElem_toArray, List.getElem_cons_zero, List.getElem_cons_succ, List.setIfInBounds_toArray, List.set_cons_zero, List.set_cons_succ]
  refine wpAnyN_one (i := 2) (by kernel_rfl) rfl (fun K hK => ?_)
  simp only [List.getElem_toArray, List.getElem_cons_zero, List.getElem_cons_succ]
  go_simp
  refine hK _ _ (fun _ => ⟨by refine Blk.drew1 ?_; repeat (first | (with_reducible exact x4) | (with_reducible refine Blk.far ?_ ?_ _); rotate_left; focus (first | (simp; done) | (simp; omega))), by refine Blk.drew1 ?_; repeat (first | (with_reducible exact x5) | (with_reducible refine Blk.far ?_ ?_ _); rotate_left; focus (first | (simp; done) | (simp; omega)))⟩) ?_
  refine wpAnyN_one (i := 3) (by kernel_rfl) rfl (fun K hK => ?_)
  simp only [List.getElem_toArray, List.getElem_cons_zero, List.getElem_cons_succ]
  go_simp
  refine hK _ _ (fun h => absurd h (by decide)) ?_
  refine wpAnyN_done (by kernel_rfl) ?_ _
  go_wp2_with fail
  refine bodyPost_ret (v := .tuple #[.agg #[.slice D0 u.files.length e0, .slice D1 u.opn.length e1, .int .i64 u.inp, .int .i64 u.out, .int .i64 u.nxt], .agg #[.int .i64 0, .string ⟨#[]⟩, .bool false, .int .i64 (errOf (useV s id))]]) (by simp only [results, Try.results26]; go_simp) rfl ⟨⟨_, rfl, .inl ?_⟩, ?_⟩
  · rw [hu.out]
    show FreshS _ _ _ (u)
    refine FreshS.base (FreshS.stay HFx.out (fun b' hb' _ => ?_) (by simp [World.drew])) (by omega)
    refine (heap_drew _ _).trans ?_
    repeat rw [heap_setCell_other _ _ _ _ (by simp; omega)]
  refine bDrewN ?_ 1
  repeat (first | (with_reducible exact HBx.out) | ((with_reducible refine Below.setCell ?_ ?_ _); rotate_left; focus (first | (simp; done) | (simp; omega))))

set_option maxHeartbeats 4000000 in
set_option maxRecDepth 100000 in
theorem act0 (v : Value) (s : Sm) (id n eof : Int) (name al : ByteArray) (w : World) (hs : SmAt w w.heap.size v s) :
    Calls Try.prog 26 #[v, .agg #[.int .i64 0, .int .i64 id, .int .i64 n, .int .i64 eof, .string name, .string al]] w (RetA v s ((sm2 (openV s name n al eof)), toldG (openV s name n al eof)) w) := by
  obtain ⟨A0, c0, A1, c1, rfl, hcap, h0, h1⟩ := hs
  have HS : Hid (SmAt w w.heap.size (smV A0 A1 c0 c1 s) s) := ⟨A0, c0, A1, c1, rfl, hcap, h0, h1⟩
  clear h0 h1 hcap
  obtain ⟨W, HWd, hbW, hzW, k0, k1, k2, k3, k4, k5⟩ := six w #[.slice A0 s.files.length c0, .slice A1 s.opn.length c1, .int .i64 s.inp, .int .i64 s.out, .int .i64 s.nxt] #[.int .i64 0, .int .i64 id, .int .i64 n, .int .i64 eof, .string name, .string al]
  have HBW := Lib.hid hbW
  clear hbW
  go_enter Try.func26, Try.ntmps26
  go_wp2_with fail
  rw [← HWd.out]
  refine (open_any _ s name n al eof _ (HS.out.next HBW.out)).mono ?_
  rintro e w1 ⟨⟨v', rfl, ho⟩, hb1⟩
  have hlen := boundG (r := openV s name n al eof) (fun _ _ => open_valid)
  obtain ⟨u, hu⟩ : ∃ u, Hid ((sm2 (openV s name n al eof)) = u) := ⟨_, rfl⟩
  rw [hu.out] at ho hlen
  replace ho := ho.fresh hlen.1 hlen.2
  have HF := Lib.hid ho
  obtain ⟨D0, e0, D1, e1, hv, -⟩ := ho
  obtain rfl : v' = .agg #[.slice D0 u.files.length e0, .slice D1 u.opn.length e1, .int .i64 u.inp, .int .i64 u.out, .int .i64 u.nxt] := hv
  clear hlen
  have HB1 := Lib.hid (bNext HBW.out hb1)
  have q0 := k0.next hb1
  have q1 := k1.next hb1
  have q2 := k2.next hb1
  have q3 := k3.next hb1
  have q4 := k4.next hb1
  have q5 := k5.next hb1
  clear hb1 k0 k1 k2 k3 k4 k5
  have z0 := q4.cell 0
  have z1 := q4.cell 1
  have z2 := q4.cell 2
  have z3 := q4.cell 3
  have z4 := q4.cell 4
  simp at z0 z1 z2 z3 z4
  have y0 := q5.cell 0
  have y1 := q5.cell 1
  have y2 := q5.cell 2
  have y3 := q5.cell 3
  simp at y0 y1 y2 y3
  have fz0 := q4.frozen 0
  have fz1 := q4.frozen 1
  have fz2 := q4.frozen 2
  have fz3 := q4.frozen 3
  have fz4 := q4.frozen 4
  have fy0 := q5.frozen 0
  have fy1 := q5.frozen 1
  have fy2 := q5.frozen 2
  have fy3 := q5.frozen 3
  have zz := q5.lt
  go_upto_region 25 with fail
  obtain ⟨wx, HWX⟩ : ∃ wx, Hid (wx = (((((((w1.setCell ⟨w.heap.size + 1 + 1 + 1 + 1, 0, none⟩ (.slice D0 u.files.length e0)).setCell ⟨w.heap.size + 1 + 1 + 1 + 1, 1, none⟩ (.slice D1 u.opn.length e1)).setCell ⟨w.heap.size + 1 + 1 + 1 + 1, 2, none⟩ (.int .i64 u.inp)).setCell ⟨w.heap.size + 1 + 1 + 1 + 1, 3, none⟩ (.int .i64 u.out)).setCell ⟨w.heap.size + 1 + 1 + 1 + 1, 4, none⟩ (.int .i64 u.nxt)).setCell ⟨w.heap.size + 1 + 1 + 1 + 1 + 1, 0, none⟩ (.int .i64 (in2 (openV s name n al eof)))).setCell ⟨w.heap.size + 1 + 1 + 1 + 1 + 1, 3, none⟩ (.int .i64 (errOf (openV s name n al eof))))) := ⟨_, rfl⟩
  have HBx := Lib.hid (show Below w.heap.size w wx by rw [HWX.out]; repeat (first | (with_reducible exact HB1.out) | ((with_reducible refine Below.setCell ?_ ?_ _); rotate_left; focus (first | (simp; done) | (simp; omega)))))
  have hzx : wx.heap.size = w1.heap.size := by rw [HWX.out]; simp
  have x2 : Blk wx (w.heap.size + 1 + 1) 25 #[.slice none 0 0, .slice none 0 0, .int .i64 0, .int .i64 0, .int .i64 0] := by
    rw [HWX.out]
    have h := (Blk.far (Blk.far (Blk.far (Blk.far (Blk.far (Blk.far (Blk.far q2 (p := ⟨w.heap.size + 1 + 1 + 1 + 1, 0, none⟩) (by first | (simp; done) | (simp; omega)) (.slice D0 u.files.length e0)) (p := ⟨w.heap.size + 1 + 1 + 1 + 1, 1, none⟩) (by first | (simp; done) | (simp; omega)) (.slice D1 u.opn.length e1)) (p := ⟨w.heap.size + 1 + 1 + 1 + 1, 2, none⟩) (by first | (simp; done) | (simp; omega)) (.int .i64 u.inp)) (p := ⟨w.heap.size + 1 + 1 + 1 + 1, 3, none⟩) (by first | (simp; done) | (simp; omega)) (.int .i64 u.out)) (p := ⟨w.heap.size + 1 + 1 + 1 + 1, 4, none⟩) (by first | (simp; done) | (simp; omega)) (.int .i64 u.nxt)) (p := ⟨w.heap.size + 1 + 1 + 1 + 1 + 1, 0, none⟩) (by first | (simp; done) | (simp; omega)) (.int .i64 (in2 (openV s name n al eof)))) (p := ⟨w.heap.size + 1 + 1 + 1 + 1 + 1, 3, none⟩) (by first | (simp; done) | (simp; omega)) (.int .i64 (errOf (openV s name n al eof))))
    simpa using h
  have x3 : Blk wx (w.heap.size + 1 + 1 + 1) 61 #[.int .i64 0, .string ⟨#[]⟩, .bool false, .int .i64 0] := by
    rw [HWX.out]
    have h := (Blk.far (Blk.far (Blk.far (Blk.far (Blk.far (Blk.far (Blk.far q3 (p := ⟨w.heap.size + 1 + 1 + 1 + 1, 0, none⟩) (by first | (simp; done) | (simp; omega)) (.slice D0 u.files.length e0)) (p := ⟨w.heap.size + 1 + 1 + 1 + 1, 1, none⟩) (by first | (simp; done) | (simp; omega)) (.slice D1 u.opn.length e1)) (p := ⟨w.heap.size + 1 + 1 + 1 + 1, 2, none⟩) (by first | (simp; done) | (simp; omega)) (.int .i64 u.inp)) (p := ⟨w.heap.size + 1 + 1 + 1 + 1, 3, none⟩) (by first | (simp; done) | (simp; omega)) (.int .i64 u.out)) (p := ⟨w.heap.size + 1 + 1 + 1 + 1, 4, none⟩) (by first | (simp; done) | (simp; omega)) (.int .i64 u.nxt)) (p := ⟨w.heap.size + 1 + 1 + 1 + 1 + 1, 0, none⟩) (by first | (simp; done) | (simp; omega)) (.int .i64 (in2 (openV s name n al eof)))) (p := ⟨w.heap.size + 1 + 1 + 1 + 1 + 1, 3, none⟩) (by first | (simp; done) | (simp; omega)) (.int .i64 (errOf (openV s name n al eof))))
    simpa using h
  have x4 : Blk wx (w.heap.size + 1 + 1 + 1 + 1) 25 #[.slice D0 u.files.length e0, .slice D1 u.opn.length e1, .int .i64 u.inp, .int .i64 u.out, .int .i64 u.nxt] := by
    rw [HWX.out]
    have h := (Blk.far (Blk.far (Blk.set_ (Blk.set_ (Blk.set_ (Blk.set_ (Blk.set_ q4 0 (.slice D0 u.files.length e0)) 1 (.slice D1 u.opn.length e1)) 2 (.int .i64 u.inp)) 3 (.int .i64 u.out)) 4 (.int .i64 u.nxt)) (p := ⟨w.heap.size + 1 + 1 + 1 + 1 + 1, 0, none⟩) (by first | (simp; done) | (simp; omega)) (.int .i64 (in2 (openV s name n al eof)))) (p := ⟨w.heap.size + 1 + 1 + 1 + 1 + 1, 3, none⟩) (by first | (simp; done) | (simp; omega)) (.int .i64 (errOf (openV s name n al eof))))
    simpa using h
  have x5 : Blk wx (w.heap.size + 1 + 1 + 1 + 1 + 1) 61 #[.int .i64 (in2 (openV s name n al eof)), .string ⟨#[]⟩, .bool false, .int .i64 (errOf (openV s name n al eof))] := by
    rw [HWX.out]
    have h := (Blk.set_ (Blk.set_ (Blk.far (Blk.far (Blk.far (Blk.far (Blk.far q5 (p := ⟨w.heap.size + 1 + 1 + 1 + 1, 0, none⟩) (by first | (simp; done) | (simp; omega)) (.slice D0 u.files.length e0)) (p := ⟨w.heap.size + 1 + 1 + 1 + 1, 1, none⟩) (by first | (simp; done) | (simp; omega)) (.slice D1 u.opn.length e1)) (p := ⟨w.heap.size + 1 + 1 + 1 + 1, 2, none⟩) (by first | (simp; done) | (simp; omega)) (.int .i64 u.inp)) (p := ⟨w.heap.size + 1 + 1 + 1 + 1, 3, none⟩) (by first | (simp; done) | (simp; omega)) (.int .i64 u.out)) (p := ⟨w.heap.size + 1 + 1 + 1 + 1, 4, none⟩) (by first | (simp; done) | (simp; omega)) (.int .i64 u.nxt)) 0 (.int .i64 (in2 (openV s name n al eof)))) 3 (.int .i64 (errOf (openV s name n al eof))))
    simpa using h
  have HFx := Lib.hid (show FreshS wx W.heap.size _ u by
    rw [HWX.out]
    refine FreshS.stay HF.out (fun b' hb' _ => ?_) (by simp)
    repeat rw [heap_setCell_other _ _ _ _ (by simp; omega)])
  try rw [← HWX.out]
  clear q0 q1 q2 q3 q4 q5 z0 z1 z2 z3 z4 y0 y1 y2 y3 fz0 fz1 fz2 fz3 fz4 fy0 fy1 fy2 fy3
  clear HWX
  have s0 := x2.frozen 0
  have ga0 := x2.frozen 0
  have ga1 := x2.frozen 1
  have ga2 := x2.frozen 2
  have ga3 := x2.frozen 3
  have ga4 := x2.frozen 4
  have gb0 := x3.frozen 0
  have gb1 := x3.frozen 1
  have gb2 := x3.frozen 2
  have gb3 := x3.frozen 3
  have ca0 := x2.cell 0
  have ca1 := x2.cell 1
  have ca2 := x2.cell 2
  have ca3 := x2.cell 3
  have ca4 := x2.cell 4
  simp at ca0 ca1 ca2 ca3 ca4
  have cb0 := x3.cell 0
  have cb1 := x3.cell 1
  have cb2 := x3.cell 2
  have cb3 := x3.cell 3
  simp at cb0 cb1 cb2 cb3
  have lx := x5.lt
  refine wp_region_N (fun w' => Blk w' (w.heap.size + 1 + 1 + 1 + 1) 25 #[.slice D0 u.files.length e0, .slice D1 u.opn.length e1, .int .i64 u.inp, .int .i64 u.out, .int .i64 u.nxt] ∧ Blk w' (w.heap.size + 1 + 1 + 1 + 1 + 1) 61 #[.int .i64 (in2 (openV s name n al eof)), .string ⟨#[]⟩, .bool false, .int .i64 (errOf (openV s name n al eof))]) (fun j => decide (j < 3)) (by kernel_rfl) ?_
  have hS0 : (fun w' => Blk w' (w.heap.size + 1 + 1 + 1 + 1) 25 #[.slice D0 u.files.length e0, .slice D1 u.opn.length e1, .int .i64 u.inp, .int .i64 u.out, .int .i64 u.nxt] ∧ Blk w' (w.heap.size + 1 + 1 + 1 + 1 + 1) 61 #[.int .i64 (in2 (openV s name n al eof)), .string ⟨#[]⟩, .bool false, .int .i64 (errOf (openV s name n al eof))]) wx.drew := ⟨x4, x5⟩
  refine wpAnyN_take (i := 0) (v := ?v17) rfl (by kernel_rfl) (by kernel_rfl) (by kernel_rfl) (by kernel_rfl) (fun _ _ _ h => h) (Or.inl ⟨by rfl, ?hy17⟩) (by assumption) ?_
  case hy17 => intro w hSw; obtain ⟨u4, u5⟩ := hSw; have e0 := u4.cell 0; have e1 := u4.cell 1; have e2 := u4.cell 2; have e3 := u4.cell 3; have e4 := u4.cell 4; have i0 := u5.cell 0; have i1 := u5.cell 1; have i2 := u5.cell 2; have i3 := u5.cell 3; simp at e0 e1 e2 e3 e4 i0 i1 i2 i3; go_simp; try with_reducible rfl
  simp only [Act.put, List.getElem_toArray, List.getElem_cons_zero, List.setIfInBounds_toArray, List.set_cons_zero, List.set_cons_succ]
  refine wpAnyN_take (i := 1) (v := ?v18) rfl (by kernel_rfl) (by kernel_rfl) (by kernel_rfl) (by kernel_rfl) (fun _ _ _ h => h) (Or.inl ⟨by rfl, ?hy18⟩) (by assumption) ?_
  case hy18 => intro w hSw; obtain ⟨u4, u5⟩ := hSw; have e0 := u4.cell 0; have e1 := u4.cell 1; have e2 := u4.cell 2; have e3 := u4.cell 3; have e4 := u4.cell 4; have i0 := u5.cell 0; have i1 := u5.cell 1; have i2 := u5.cell 2; have i3 := u5.cell 3; simp at e0 e1 e2 e3 e4 i0 i1 i2 i3; go_simp; try with_reducible rfl
  simp only [Act.put, List.getElem_toArray, List.getElem_cons_zero, List.getElem_cons_succ, List.setIfInBounds_toArray, List.set_cons_zero, List.set_cons_succ]
  refine wpAnyN_one (i := 2) (by kernel_rfl) rfl (fun K hK => ?_)
  simp only [List.getElem_toArray, List.getElem_cons_zero, List.getElem_cons_succ]
  go_simp
  refine hK _ _ (fun _ => ⟨by refine Blk.drew1 ?_; repeat (first | (with_reducible exact x4) | (with_reducible refine Blk.far ?_ ?_ _); rotate_left; focus (first | (simp; done) | (simp; omega))), by refine Blk.drew1 ?_; repeat (first | (with_reducible exact x5) | (with_reducible refine Blk.far ?_ ?_ _); rotate_left; focus (first | (simp; done) | (simp; omega)))⟩) ?_
  refine wpAnyN_one (i := 3) (by kernel_rfl) rfl (fun K hK => ?_)
  simp only [List.getElem_toArray, List.getElem_cons_zero, List.getElem_cons_succ]
  go_simp
  refine hK _ _ (fun h => absurd h (by decide)) ?_
  refine wpAnyN_done (by kernel_rfl) ?_ _
  go_wp2_with fail
  refine bodyPost_ret (v := .tuple #[.agg #[.slice D0 u.files.length e0, .slice D1 u.opn.length e1, .int .i64 u.inp, .int .i64 u.out, .int .i64 u.nxt], .agg #[.int .i64 (in2 (openV s name n al eof)), .string ⟨#[]⟩, .bool false, .int .i64 (errOf (openV s name n al eof))]]) (by simp only [results, Try.results26]; go_simp) rfl ⟨⟨_, rfl, .inl ?_⟩, ?_⟩
  · rw [hu.out]
    show FreshS _ _ _ (u)
    refine FreshS.base (FreshS.stay HFx.out (fun b' hb' _ => ?_) (by simp [World.drew])) (by omega)
    refine (heap_drew _ _).trans ?_
    repeat rw [heap_setCell_other _ _ _ _ (by simp; omega)]
  refine bDrewN ?_ 1
  repeat (first | (with_reducible exact HBx.out) | ((with_reducible refine Below.setCell ?_ ?_ _); rotate_left; focus (first | (simp; done) | (simp; omega))))

set_option maxHeartbeats 4000000 in
set_option maxRecDepth 100000 in
theorem act2 (v : Value) (s : Sm) (id n eof : Int) (name al : ByteArray) (w : World) (hs : SmAt w w.heap.size v s) :
    Calls Try.prog 26 #[v, .agg #[.int .i64 2, .int .i64 id, .int .i64 n, .int .i64 eof, .string name, .string al]] w (RetA v s ((sm2 (getV s id)), toldG (getV s id)) w) := by
  obtain ⟨A0, c0, A1, c1, rfl, hcap, h0, h1⟩ := hs
  have HS : Hid (SmAt w w.heap.size (smV A0 A1 c0 c1 s) s) := ⟨A0, c0, A1, c1, rfl, hcap, h0, h1⟩
  clear h0 h1 hcap
  obtain ⟨W, HWd, hbW, hzW, k0, k1, k2, k3, k4, k5⟩ := six w #[.slice A0 s.files.length c0, .slice A1 s.opn.length c1, .int .i64 s.inp, .int .i64 s.out, .int .i64 s.nxt] #[.int .i64 2, .int .i64 id, .int .i64 n, .int .i64 eof, .string name, .string al]
  have HBW := Lib.hid hbW
  clear hbW
  go_enter Try.func26, Try.ntmps26
  go_wp2_with fail
  rw [← HWd.out]
  refine (get_any _ s id _ (HS.out.next HBW.out)).mono ?_
  rintro e w1 ⟨⟨v', rfl, ho⟩, hb1⟩
  have hlen := boundG (r := getV s id) (fun _ _ => get_valid)
  obtain ⟨u, hu⟩ : ∃ u, Hid ((sm2 (getV s id)) = u) := ⟨_, rfl⟩
  rw [hu.out] at ho hlen
  replace ho := ho.fresh hlen.1 hlen.2
  have HF := Lib.hid ho
  obtain ⟨D0, e0, D1, e1, hv, -⟩ := ho
  obtain rfl : v' = .agg #[.slice D0 u.files.length e0, .slice D1 u.opn.length e1, .int .i64 u.inp, .int .i64 u.out, .int .i64 u.nxt] := hv
  clear hlen
  have HB1 := Lib.hid (bNext HBW.out hb1)
  have q0 := k0.next hb1
  have q1 := k1.next hb1
  have q2 := k2.next hb1
  have q3 := k3.next hb1
  have q4 := k4.next hb1
  have q5 := k5.next hb1
  clear hb1 k0 k1 k2 k3 k4 k5
  have z0 := q4.cell 0
  have z1 := q4.cell 1
  have z2 := q4.cell 2
  have z3 := q4.cell 3
  have z4 := q4.cell 4
  simp at z0 z1 z2 z3 z4
  have y0 := q5.cell 0
  have y1 := q5.cell 1
  have y2 := q5.cell 2
  have y3 := q5.cell 3
  simp at y0 y1 y2 y3
  have fz0 := q4.frozen 0
  have fz1 := q4.frozen 1
  have fz2 := q4.frozen 2
  have fz3 := q4.frozen 3
  have fz4 := q4.frozen 4
  have fy0 := q5.frozen 0
  have fy1 := q5.frozen 1
  have fy2 := q5.frozen 2
  have fy3 := q5.frozen 3
  have zz := q5.lt
  go_upto_region 25 with fail
  obtain ⟨wx, HWX⟩ : ∃ wx, Hid (wx = (((((((w1.setCell ⟨w.heap.size + 1 + 1 + 1 + 1, 0, none⟩ (.slice D0 u.files.length e0)).setCell ⟨w.heap.size + 1 + 1 + 1 + 1, 1, none⟩ (.slice D1 u.opn.length e1)).setCell ⟨w.heap.size + 1 + 1 + 1 + 1, 2, none⟩ (.int .i64 u.inp)).setCell ⟨w.heap.size + 1 + 1 + 1 + 1, 3, none⟩ (.int .i64 u.out)).setCell ⟨w.heap.size + 1 + 1 + 1 + 1, 4, none⟩ (.int .i64 u.nxt)).setCell ⟨w.heap.size + 1 + 1 + 1 + 1 + 1, 0, none⟩ (.int .i64 (in2 (getV s id)))).setCell ⟨w.heap.size + 1 + 1 + 1 + 1 + 1, 3, none⟩ (.int .i64 (errOf (getV s id))))) := ⟨_, rfl⟩
  have HBx := Lib.hid (show Below w.heap.size w wx by rw [HWX.out]; repeat (first | (with_reducible exact HB1.out) | ((with_reducible refine Below.setCell ?_ ?_ _); rotate_left; focus (first | (simp; done) | (simp; omega)))))
  have hzx : wx.heap.size = w1.heap.size := by rw [HWX.out]; simp
  have x2 : Blk wx (w.heap.size + 1 + 1) 25 #[.slice none 0 0, .slice none 0 0, .int .i64 0, .int .i64 0, .int .i64 0] := by
    rw [HWX.out]
    have h := (Blk.far (Blk.far (Blk.far (Blk.far (Blk.far (Blk.far (Blk.far q2 (p := ⟨w.heap.size + 1 + 1 + 1 + 1, 0, none⟩) (by first | (simp; done) | (simp; omega)) (.slice D0 u.files.length e0)) (p := ⟨w.heap.size + 1 + 1 + 1 + 1, 1, none⟩) (by first | (simp; done) | (simp; omega)) (.slice D1 u.opn.length e1)) (p := ⟨w.heap.size + 1 + 1 + 1 + 1, 2, none⟩) (by first | (simp; done) | (simp; omega)) (.int .i64 u.inp)) (p := ⟨w.heap.size + 1 + 1 + 1 + 1, 3, none⟩) (by first | (simp; done) | (simp; omega)) (.int .i64 u.out)) (p := ⟨w.heap.size + 1 + 1 + 1 + 1, 4, none⟩) (by first | (simp; done) | (simp; omega)) (.int .i64 u.nxt)) (p := ⟨w.heap.size + 1 + 1 + 1 + 1 + 1, 0, none⟩) (by first | (simp; done) | (simp; omega)) (.int .i64 (in2 (getV s id)))) (p := ⟨w.heap.size + 1 + 1 + 1 + 1 + 1, 3, none⟩) (by first | (simp; done) | (simp; omega)) (.int .i64 (errOf (getV s id))))
    simpa using h
  have x3 : Blk wx (w.heap.size + 1 + 1 + 1) 61 #[.int .i64 0, .string ⟨#[]⟩, .bool false, .int .i64 0] := by
    rw [HWX.out]
    have h := (Blk.far (Blk.far (Blk.far (Blk.far (Blk.far (Blk.far (Blk.far q3 (p := ⟨w.heap.size + 1 + 1 + 1 + 1, 0, none⟩) (by first | (simp; done) | (simp; omega)) (.slice D0 u.files.length e0)) (p := ⟨w.heap.size + 1 + 1 + 1 + 1, 1, none⟩) (by first | (simp; done) | (simp; omega)) (.slice D1 u.opn.length e1)) (p := ⟨w.heap.size + 1 + 1 + 1 + 1, 2, none⟩) (by first | (simp; done) | (simp; omega)) (.int .i64 u.inp)) (p := ⟨w.heap.size + 1 + 1 + 1 + 1, 3, none⟩) (by first | (simp; done) | (simp; omega)) (.int .i64 u.out)) (p := ⟨w.heap.size + 1 + 1 + 1 + 1, 4, none⟩) (by first | (simp; done) | (simp; omega)) (.int .i64 u.nxt)) (p := ⟨w.heap.size + 1 + 1 + 1 + 1 + 1, 0, none⟩) (by first | (simp; done) | (simp; omega)) (.int .i64 (in2 (getV s id)))) (p := ⟨w.heap.size + 1 + 1 + 1 + 1 + 1, 3, none⟩) (by first | (simp; done) | (simp; omega)) (.int .i64 (errOf (getV s id))))
    simpa using h
  have x4 : Blk wx (w.heap.size + 1 + 1 + 1 + 1) 25 #[.slice D0 u.files.length e0, .slice D1 u.opn.length e1, .int .i64 u.inp, .int .i64 u.out, .int .i64 u.nxt] := by
    rw [HWX.out]
    have h := (Blk.far (Blk.far (Blk.set_ (Blk.set_ (Blk.set_ (Blk.set_ (Blk.set_ q4 0 (.slice D0 u.files.length e0)) 1 (.slice D1 u.opn.length e1)) 2 (.int .i64 u.inp)) 3 (.int .i64 u.out)) 4 (.int .i64 u.nxt)) (p := ⟨w.heap.size + 1 + 1 + 1 + 1 + 1, 0, none⟩) (by first | (simp; done) | (simp; omega)) (.int .i64 (in2 (getV s id)))) (p := ⟨w.heap.size + 1 + 1 + 1 + 1 + 1, 3, none⟩) (by first | (simp; done) | (simp; omega)) (.int .i64 (errOf (getV s id))))
    simpa using h
  have x5 : Blk wx (w.heap.size + 1 + 1 + 1 + 1 + 1) 61 #[.int .i64 (in2 (getV s id)), .string ⟨#[]⟩, .bool false, .int .i64 (errOf (getV s id))] := by
    rw [HWX.out]
    have h := (Blk.set_ (Blk.set_ (Blk.far (Blk.far (Blk.far (Blk.far (Blk.far q5 (p := ⟨w.heap.size + 1 + 1 + 1 + 1, 0, none⟩) (by first | (simp; done) | (simp; omega)) (.slice D0 u.files.length e0)) (p := ⟨w.heap.size + 1 + 1 + 1 + 1, 1, none⟩) (by first | (simp; done) | (simp; omega)) (.slice D1 u.opn.length e1)) (p := ⟨w.heap.size + 1 + 1 + 1 + 1, 2, none⟩) (by first | (simp; done) | (simp; omega)) (.int .i64 u.inp)) (p := ⟨w.heap.size + 1 + 1 + 1 + 1, 3, none⟩) (by first | (simp; done) | (simp; omega)) (.int .i64 u.out)) (p := ⟨w.heap.size + 1 + 1 + 1 + 1, 4, none⟩) (by first | (simp; done) | (simp; omega)) (.int .i64 u.nxt)) 0 (.int .i64 (in2 (getV s id)))) 3 (.int .i64 (errOf (getV s id))))
    simpa using h
  have HFx := Lib.hid (show FreshS wx W.heap.size _ u by
    rw [HWX.out]
    refine FreshS.stay HF.out (fun b' hb' _ => ?_) (by simp)
    repeat rw [heap_setCell_other _ _ _ _ (by simp; omega)])
  try rw [← HWX.out]
  clear q0 q1 q2 q3 q4 q5 z0 z1 z2 z3 z4 y0 y1 y2 y3 fz0 fz1 fz2 fz3 fz4 fy0 fy1 fy2 fy3
  clear HWX
  have s0 := x2.frozen 0
  have ga0 := x2.frozen 0
  have ga1 := x2.frozen 1
  have ga2 := x2.frozen 2
  have ga3 := x2.frozen 3
  have ga4 := x2.frozen 4
  have gb0 := x3.frozen 0
  have gb1 := x3.frozen 1
  have gb2 := x3.frozen 2
  have gb3 := x3.frozen 3
  have ca0 := x2.cell 0
  have ca1 := x2.cell 1
  have ca2 := x2.cell 2
  have ca3 := x2.cell 3
  have ca4 := x2.cell 4
  simp at ca0 ca1 ca2 ca3 ca4
  have cb0 := x3.cell 0
  have cb1 := x3.cell 1
  have cb2 := x3.cell 2
  have cb3 := x3.cell 3
  simp at cb0 cb1 cb2 cb3
  have lx := x5.lt
  refine wp_region_N (fun w' => Blk w' (w.heap.size + 1 + 1 + 1 + 1) 25 #[.slice D0 u.files.length e0, .slice D1 u.opn.length e1, .int .i64 u.inp, .int .i64 u.out, .int .i64 u.nxt] ∧ Blk w' (w.heap.size + 1 + 1 + 1 + 1 + 1) 61 #[.int .i64 (in2 (getV s id)), .string ⟨#[]⟩, .bool false, .int .i64 (errOf (getV s id))]) (fun j => decide (j < 3)) (by kernel_rfl) ?_
  have hS0 : (fun w' => Blk w' (w.heap.size + 1 + 1 + 1 + 1) 25 #[.slice D0 u.files.length e0, .slice D1 u.opn.length e1, .int .i64 u.inp, .int .i64 u.out, .int .i64 u.nxt] ∧ Blk w' (w.heap.size + 1 + 1 + 1 + 1 + 1) 61 #[.int .i64 (in2 (getV s id)), .string ⟨#[]⟩, .bool false, .int .i64 (errOf (getV s id))]) wx.drew := ⟨x4, x5⟩
  refine wpAnyN_take (i := 0) (v := ?v19) rfl (by kernel_rfl) (by kernel_rfl) (by kernel_rfl) (by kernel_rfl) (fun _ _ _ h => h) (Or.inl ⟨by rfl, ?hy19⟩) (by assumption) ?_
  case hy19 => intro w hSw; obtain ⟨u4, u5⟩ := hSw; have e0 := u4.cell 0; have e1 := u4.cell 1; have e2 := u4.cell 2; have e3 := u4.cell 3; have e4 := u4.cell 4; have i0 := u5.cell 0; have i1 := u5.cell 1; have i2 := u5.cell 2; have i3 := u5.cell 3; simp at e0 e1 e2 e3 e4 i0 i1 i2 i3; go_simp; try with_reducible rfl
  simp only [Act.put, List.getElem_toArray, List.getElem_cons_zero, List.setIfInBounds_toArray, List.set_cons_zero, List.set_cons_succ]
  refine wpAnyN_take (i := 1) (v := ?v20) rfl (by kernel_rfl) (by kernel_rfl) (by kernel_rfl) (by kernel_rfl) (fun _ _ _ h => h) (Or.inl ⟨by rfl, ?hy20⟩) (by assumption) ?_
  case hy20 => intro w hSw; obtain ⟨u4, u5⟩ := hSw; have e0 := u4.cell 0; have e1 := u4.cell 1; have e2 := u4.cell 2; have e3 := u4.cell 3; have e4 := u4.cell 4; have i0 := u5.cell 0; have i1 := u5.cell 1; have i2 := u5.cell 2; have i3 := u5.cell 3; simp at e0 e1 e2 e3 e4 i0 i1 i2 i3; go_simp; try with_reducible rfl
  simp only [Act.put, List.getElem_toArray, List.getElem_cons_zero, List.getElem_cons_succ, List.setIfInBounds_toArray, List.set_cons_zero, List.set_cons_succ]
  refine wpAnyN_one (i := 2) (by kernel_rfl) rfl (fun K hK => ?_)
  simp only [List.getElem_toArray, List.getElem_cons_zero, List.getElem_cons_succ]
  go_simp
  refine hK _ _ (fun _ => ⟨by refine Blk.drew1 ?_; repeat (first | (with_reducible exact x4) | (with_reducible refine Blk.far ?_ ?_ _); rotate_left; focus (first | (simp; done) | (simp; omega))), by refine Blk.drew1 ?_; repeat (first | (with_reducible exact x5) | (with_reducible refine Blk.far ?_ ?_ _); rotate_left; focus (first | (simp; done) | (simp; omega)))⟩) ?_
  refine wpAnyN_one (i := 3) (by kernel_rfl) rfl (fun K hK => ?_)
  simp only [List.getElem_toArray, List.getElem_cons_zero, List.getElem_cons_succ]
  go_simp
  refine hK _ _ (fun h => absurd h (by decide)) ?_
  refine wpAnyN_done (by kernel_rfl) ?_ _
  go_wp2_with fail
  refine bodyPost_ret (v := .tuple #[.agg #[.slice D0 u.files.length e0, .slice D1 u.opn.length e1, .int .i64 u.inp, .int .i64 u.out, .int .i64 u.nxt], .agg #[.int .i64 (in2 (getV s id)), .string ⟨#[]⟩, .bool false, .int .i64 (errOf (getV s id))]]) (by simp only [results, Try.results26]; go_simp) rfl ⟨⟨_, rfl, .inl ?_⟩, ?_⟩
  · rw [hu.out]
    show FreshS _ _ _ (u)
    refine FreshS.base (FreshS.stay HFx.out (fun b' hb' _ => ?_) (by simp [World.drew])) (by omega)
    refine (heap_drew _ _).trans ?_
    repeat rw [heap_setCell_other _ _ _ _ (by simp; omega)]
  refine bDrewN ?_ 1
  repeat (first | (with_reducible exact HBx.out) | ((with_reducible refine Below.setCell ?_ ?_ _); rotate_left; focus (first | (simp; done) | (simp; omega))))

set_option maxHeartbeats 4000000 in
set_option maxRecDepth 100000 in
theorem act3 (v : Value) (s : Sm) (id n eof : Int) (name al : ByteArray) (w : World) (hs : SmAt w w.heap.size v s) :
    Calls Try.prog 26 #[v, .agg #[.int .i64 3, .int .i64 id, .int .i64 n, .int .i64 eof, .string name, .string al]] w (RetA v s ((sm2 (peekV s id)), toldG (peekV s id)) w) := by
  obtain ⟨A0, c0, A1, c1, rfl, hcap, h0, h1⟩ := hs
  have HS : Hid (SmAt w w.heap.size (smV A0 A1 c0 c1 s) s) := ⟨A0, c0, A1, c1, rfl, hcap, h0, h1⟩
  clear h0 h1 hcap
  obtain ⟨W, HWd, hbW, hzW, k0, k1, k2, k3, k4, k5⟩ := six w #[.slice A0 s.files.length c0, .slice A1 s.opn.length c1, .int .i64 s.inp, .int .i64 s.out, .int .i64 s.nxt] #[.int .i64 3, .int .i64 id, .int .i64 n, .int .i64 eof, .string name, .string al]
  have HBW := Lib.hid hbW
  clear hbW
  go_enter Try.func26, Try.ntmps26
  go_wp2_with fail
  rw [← HWd.out]
  refine (peek_any _ s id _ (HS.out.next HBW.out)).mono ?_
  rintro e w1 ⟨⟨v', rfl, ho⟩, hb1⟩
  have hlen := boundG (r := peekV s id) (fun _ _ h => (peek_valid h).1)
  obtain ⟨u, hu⟩ : ∃ u, Hid ((sm2 (peekV s id)) = u) := ⟨_, rfl⟩
  rw [hu.out] at ho hlen
  replace ho := ho.fresh hlen.1 hlen.2
  have HF := Lib.hid ho
  obtain ⟨D0, e0, D1, e1, hv, -⟩ := ho
  obtain rfl : v' = .agg #[.slice D0 u.files.length e0, .slice D1 u.opn.length e1, .int .i64 u.inp, .int .i64 u.out, .int .i64 u.nxt] := hv
  clear hlen
  have HB1 := Lib.hid (bNext HBW.out hb1)
  have q0 := k0.next hb1
  have q1 := k1.next hb1
  have q2 := k2.next hb1
  have q3 := k3.next hb1
  have q4 := k4.next hb1
  have q5 := k5.next hb1
  clear hb1 k0 k1 k2 k3 k4 k5
  have z0 := q4.cell 0
  have z1 := q4.cell 1
  have z2 := q4.cell 2
  have z3 := q4.cell 3
  have z4 := q4.cell 4
  simp at z0 z1 z2 z3 z4
  have y0 := q5.cell 0
  have y1 := q5.cell 1
  have y2 := q5.cell 2
  have y3 := q5.cell 3
  simp at y0 y1 y2 y3
  have fz0 := q4.frozen 0
  have fz1 := q4.frozen 1
  have fz2 := q4.frozen 2
  have fz3 := q4.frozen 3
  have fz4 := q4.frozen 4
  have fy0 := q5.frozen 0
  have fy1 := q5.frozen 1
  have fy2 := q5.frozen 2
  have fy3 := q5.frozen 3
  have zz := q5.lt
  go_upto_region 25 with fail
  obtain ⟨wx, HWX⟩ : ∃ wx, Hid (wx = (((((((w1.setCell ⟨w.heap.size + 1 + 1 + 1 + 1, 0, none⟩ (.slice D0 u.files.length e0)).setCell ⟨w.heap.size + 1 + 1 + 1 + 1, 1, none⟩ (.slice D1 u.opn.length e1)).setCell ⟨w.heap.size + 1 + 1 + 1 + 1, 2, none⟩ (.int .i64 u.inp)).setCell ⟨w.heap.size + 1 + 1 + 1 + 1, 3, none⟩ (.int .i64 u.out)).setCell ⟨w.heap.size + 1 + 1 + 1 + 1, 4, none⟩ (.int .i64 u.nxt)).setCell ⟨w.heap.size + 1 + 1 + 1 + 1 + 1, 0, none⟩ (.int .i64 (in2 (peekV s id)))).setCell ⟨w.heap.size + 1 + 1 + 1 + 1 + 1, 3, none⟩ (.int .i64 (errOf (peekV s id))))) := ⟨_, rfl⟩
  have HBx := Lib.hid (show Below w.heap.size w wx by rw [HWX.out]; repeat (first | (with_reducible exact HB1.out) | ((with_reducible refine Below.setCell ?_ ?_ _); rotate_left; focus (first | (simp; done) | (simp; omega)))))
  have hzx : wx.heap.size = w1.heap.size := by rw [HWX.out]; simp
  have x2 : Blk wx (w.heap.size + 1 + 1) 25 #[.slice none 0 0, .slice none 0 0, .int .i64 0, .int .i64 0, .int .i64 0] := by
    rw [HWX.out]
    have h := (Blk.far (Blk.far (Blk.far (Blk.far (Blk.far (Blk.far (Blk.far q2 (p := ⟨w.heap.size + 1 + 1 + 1 + 1, 0, none⟩) (by first | (simp; done) | (simp; omega)) (.slice D0 u.files.length e0)) (p := ⟨w.heap.size + 1 + 1 + 1 + 1, 1, none⟩) (by first | (simp; done) | (simp; omega)) (.slice D1 u.opn.length e1)) (p := ⟨w.heap.size + 1 + 1 + 1 + 1, 2, none⟩) (by first | (simp; done) | (simp; omega)) (.int .i64 u.inp)) (p := ⟨w.heap.size + 1 + 1 + 1 + 1, 3, none⟩) (by first | (simp; done) | (simp; omega)) (.int .i64 u.out)) (p := ⟨w.heap.size + 1 + 1 + 1 + 1, 4, none⟩) (by first | (simp; done) | (simp; omega)) (.int .i64 u.nxt)) (p := ⟨w.heap.size + 1 + 1 + 1 + 1 + 1, 0, none⟩) (by first | (simp; done) | (simp; omega)) (.int .i64 (in2 (peekV s id)))) (p := ⟨w.heap.size + 1 + 1 + 1 + 1 + 1, 3, none⟩) (by first | (simp; done) | (simp; omega)) (.int .i64 (errOf (peekV s id))))
    simpa using h
  have x3 : Blk wx (w.heap.size + 1 + 1 + 1) 61 #[.int .i64 0, .string ⟨#[]⟩, .bool false, .int .i64 0] := by
    rw [HWX.out]
    have h := (Blk.far (Blk.far (Blk.far (Blk.far (Blk.far (Blk.far (Blk.far q3 (p := ⟨w.heap.size + 1 + 1 + 1 + 1, 0, none⟩) (by first | (simp; done) | (simp; omega)) (.slice D0 u.files.length e0)) (p := ⟨w.heap.size + 1 + 1 + 1 + 1, 1, none⟩) (by first | (simp; done) | (simp; omega)) (.slice D1 u.opn.length e1)) (p := ⟨w.heap.size + 1 + 1 + 1 + 1, 2, none⟩) (by first | (simp; done) | (simp; omega)) (.int .i64 u.inp)) (p := ⟨w.heap.size + 1 + 1 + 1 + 1, 3, none⟩) (by first | (simp; done) | (simp; omega)) (.int .i64 u.out)) (p := ⟨w.heap.size + 1 + 1 + 1 + 1, 4, none⟩) (by first | (simp; done) | (simp; omega)) (.int .i64 u.nxt)) (p := ⟨w.heap.size + 1 + 1 + 1 + 1 + 1, 0, none⟩) (by first | (simp; done) | (simp; omega)) (.int .i64 (in2 (peekV s id)))) (p := ⟨w.heap.size + 1 + 1 + 1 + 1 + 1, 3, none⟩) (by first | (simp; done) | (simp; omega)) (.int .i64 (errOf (peekV s id))))
    simpa using h
  have x4 : Blk wx (w.heap.size + 1 + 1 + 1 + 1) 25 #[.slice D0 u.files.length e0, .slice D1 u.opn.length e1, .int .i64 u.inp, .int .i64 u.out, .int .i64 u.nxt] := by
    rw [HWX.out]
    have h := (Blk.far (Blk.far (Blk.set_ (Blk.set_ (Blk.set_ (Blk.set_ (Blk.set_ q4 0 (.slice D0 u.files.length e0)) 1 (.slice D1 u.opn.length e1)) 2 (.int .i64 u.inp)) 3 (.int .i64 u.out)) 4 (.int .i64 u.nxt)) (p := ⟨w.heap.size + 1 + 1 + 1 + 1 + 1, 0, none⟩) (by first | (simp; done) | (simp; omega)) (.int .i64 (in2 (peekV s id)))) (p := ⟨w.heap.size + 1 + 1 + 1 + 1 + 1, 3, none⟩) (by first | (simp; done) | (simp; omega)) (.int .i64 (errOf (peekV s id))))
    simpa using h
  have x5 : Blk wx (w.heap.size + 1 + 1 + 1 + 1 + 1) 61 #[.int .i64 (in2 (peekV s id)), .string ⟨#[]⟩, .bool false, .int .i64 (errOf (peekV s id))] := by
    rw [HWX.out]
    have h := (Blk.set_ (Blk.set_ (Blk.far (Blk.far (Blk.far (Blk.far (Blk.far q5 (p := ⟨w.heap.size + 1 + 1 + 1 + 1, 0, none⟩) (by first | (simp; done) | (simp; omega)) (.slice D0 u.files.length e0)) (p := ⟨w.heap.size + 1 + 1 + 1 + 1, 1, none⟩) (by first | (simp; done) | (simp; omega)) (.slice D1 u.opn.length e1)) (p := ⟨w.heap.size + 1 + 1 + 1 + 1, 2, none⟩) (by first | (simp; done) | (simp; omega)) (.int .i64 u.inp)) (p := ⟨w.heap.size + 1 + 1 + 1 + 1, 3, none⟩) (by first | (simp; done) | (simp; omega)) (.int .i64 u.out)) (p := ⟨w.heap.size + 1 + 1 + 1 + 1, 4, none⟩) (by first | (simp; done) | (simp; omega)) (.int .i64 u.nxt)) 0 (.int .i64 (in2 (peekV s id)))) 3 (.int .i64 (errOf (peekV s id))))
    simpa using h
  have HFx := Lib.hid (show FreshS wx W.heap.size _ u by
    rw [HWX.out]
    refine FreshS.stay HF.out (fun b' hb' _ => ?_) (by simp)
    repeat rw [heap_setCell_other _ _ _ _ (by simp; omega)])
  try rw [← HWX.out]
  clear q0 q1 q2 q3 q4 q5 z0 z1 z2 z3 z4 y0 y1 y2 y3 fz0 fz1 fz2 fz3 fz4 fy0 fy1 fy2 fy3
  clear HWX
  have s0 := x2.frozen 0
  have ga0 := x2.frozen 0
  have ga1 := x2.frozen 1
  have ga2 := x2.frozen 2
  have ga3 := x2.frozen 3
  have ga4 := x2.frozen 4
  have gb0 := x3.frozen 0
  have gb1 := x3.frozen 1
  have gb2 := x3.frozen 2
  have gb3 := x3.frozen 3
  have ca0 := x2.cell 0
  have ca1 := x2.cell 1
  have ca2 := x2.cell 2
  have ca3 := x2.cell 3
  have ca4 := x2.cell 4
  simp at ca0 ca1 ca2 ca3 ca4
  have cb0 := x3.cell 0
  have cb1 := x3.cell 1
  have cb2 := x3.cell 2
  have cb3 := x3.cell 3
  simp at cb0 cb1 cb2 cb3
  have lx := x5.lt
  refine wp_region_N (fun w' => Blk w' (w.heap.size + 1 + 1 + 1 + 1) 25 #[.slice D0 u.files.length e0, .slice D1 u.opn.length e1, .int .i64 u.inp, .int .i64 u.out, .int .i64 u.nxt] ∧ Blk w' (w.heap.size + 1 + 1 + 1 + 1 + 1) 61 #[.int .i64 (in2 (peekV s id)), .string ⟨#[]⟩, .bool false, .int .i64 (errOf (peekV s id))]) (fun j => decide (j < 3)) (by kernel_rfl) ?_
  have hS0 : (fun w' => Blk w' (w.heap.size + 1 + 1 + 1 + 1) 25 #[.slice D0 u.files.length e0, .slice D1 u.opn.length e1, .int .i64 u.inp, .int .i64 u.out, .int .i64 u.nxt] ∧ Blk w' (w.heap.size + 1 + 1 + 1 + 1 + 1) 61 #[.int .i64 (in2 (peekV s id)), .string ⟨#[]⟩, .bool false, .int .i64 (errOf (peekV s id))]) wx.drew := ⟨x4, x5⟩
  refine wpAnyN_take (i := 0) (v := ?v21) rfl (by kernel_rfl) (by kernel_rfl) (by kernel_rfl) (by kernel_rfl) (fun _ _ _ h => h) (Or.inl ⟨by rfl, ?hy21⟩) (by assumption) ?_
  case hy21 => intro w hSw; obtain ⟨u4, u5⟩ := hSw; have e0 := u4.cell 0; have e1 := u4.cell 1; have e2 := u4.cell 2; have e3 := u4.cell 3; have e4 := u4.cell 4; have i0 := u5.cell 0; have i1 := u5.cell 1; have i2 := u5.cell 2; have i3 := u5.cell 3; simp at e0 e1 e2 e3 e4 i0 i1 i2 i3; go_simp; try with_reducible rfl
  simp only [Act.put, List.getElem_toArray, List.getElem_cons_zero, List.setIfInBounds_toArray, List.set_cons_zero, List.set_cons_succ]
  refine wpAnyN_take (i := 1) (v := ?v22) rfl (by kernel_rfl) (by kernel_rfl) (by kernel_rfl) (by kernel_rfl) (fun _ _ _ h => h) (Or.inl ⟨by rfl, ?hy22⟩) (by assumption) ?_
  case hy22 => intro w hSw; obtain ⟨u4, u5⟩ := hSw; have e0 := u4.cell 0; have e1 := u4.cell 1; have e2 := u4.cell 2; have e3 := u4.cell 3; have e4 := u4.cell 4; have i0 := u5.cell 0; have i1 := u5.cell 1; have i2 := u5.cell 2; have i3 := u5.cell 3; simp at e0 e1 e2 e3 e4 i0 i1 i2 i3; go_simp; try with_reducible rfl
  simp only [Act.put, List.getElem_toArray, List.getElem_cons_zero, List.getElem_cons_succ, List.setIfInBounds_toArray, List.set_cons_zero, List.set_cons_succ]
  refine wpAnyN_one (i := 2) (by kernel_rfl) rfl (fun K hK => ?_)
  simp only [List.getElem_toArray, List.getElem_cons_zero, List.getElem_cons_succ]
  go_simp
  refine hK _ _ (fun _ => ⟨by refine Blk.drew1 ?_; repeat (first | (with_reducible exact x4) | (with_reducible refine Blk.far ?_ ?_ _); rotate_left; focus (first | (simp; done) | (simp; omega))), by refine Blk.drew1 ?_; repeat (first | (with_reducible exact x5) | (with_reducible refine Blk.far ?_ ?_ _); rotate_left; focus (first | (simp; done) | (simp; omega)))⟩) ?_
  refine wpAnyN_one (i := 3) (by kernel_rfl) rfl (fun K hK => ?_)
  simp only [List.getElem_toArray, List.getElem_cons_zero, List.getElem_cons_succ]
  go_simp
  refine hK _ _ (fun h => absurd h (by decide)) ?_
  refine wpAnyN_done (by kernel_rfl) ?_ _
  go_wp2_with fail
  refine bodyPost_ret (v := .tuple #[.agg #[.slice D0 u.files.length e0, .slice D1 u.opn.length e1, .int .i64 u.inp, .int .i64 u.out, .int .i64 u.nxt], .agg #[.int .i64 (in2 (peekV s id)), .string ⟨#[]⟩, .bool false, .int .i64 (errOf (peekV s id))]]) (by simp only [results, Try.results26]; go_simp) rfl ⟨⟨_, rfl, .inl ?_⟩, ?_⟩
  · rw [hu.out]
    show FreshS _ _ _ (u)
    refine FreshS.base (FreshS.stay HFx.out (fun b' hb' _ => ?_) (by simp [World.drew])) (by omega)
    refine (heap_drew _ _).trans ?_
    repeat rw [heap_setCell_other _ _ _ _ (by simp; omega)]
  refine bDrewN ?_ 1
  repeat (first | (with_reducible exact HBx.out) | ((with_reducible refine Below.setCell ?_ ?_ _); rotate_left; focus (first | (simp; done) | (simp; omega))))
end Go.Proofs.Ytklpghpfdeojeaa
