/-
  The walk of the example.
-/
import Derived.Test.YtpkpdjekoghkcaaWk
import Derived.Test.YtpkpdjekoghkcaaWm
namespace Go.Proofs.Ytpkpdjekoghkcaa
open Go.RowKit

def kA : K := ⟨2, 0, { data := #[97] }, 0⟩
def kF : K := ⟨3, 0, { data := #[102] }, 1⟩
def k7 : K := ⟨1, 7, { data := #[] }, 0⟩
def exKeys : List K := [kA, kF, zeroK, kA, k7]
def exI : Ix := ⟨[0, 1, 2, 3, 4], [(kA, [0, 2, 3]), (kF, [1, 2]), (k7, [2, 4])], [2]⟩
theorem ex_build : buildIx exKeys = exI := by kernel_rfl
theorem ex_err : buildE exKeys = 0 := by kernel_rfl
theorem ex_valid : validIx exI = true := by kernel_rfl
theorem ex_selA : selIx true exI kA = [0, 2, 3] := by kernel_rfl
theorem ex_selF : selIx true exI kF = [1, 2] := by kernel_rfl
theorem ex_ex : exIx true exI = false := by kernel_rfl

theorem ints_blk {w : World} {g t : Nat} {cs : Array Value} (l : List Int) (h : Blk w g t cs) (e : cs = (l.map (Value.int .i64)).toArray) (hn : l.length ≤ 281474976710656) : IntsAt w w.heap.size (some ⟨g, 0, none⟩) l.length l := by
  subst e
  refine ⟨⟨rfl, hn⟩, fun _ => ⟨g, 0, rfl, h.lt, fun i x hx => ?_⟩⟩
  rw [h.cell, Nat.zero_add]
  simp [hx]

theorem keys_blk {w : World} {g t : Nat} {cs : Array Value} (l : List K) (h : Blk w g t cs) (e : cs = (keyCs l).toArray) (hn : l.length ≤ 281474976710656) : KeysAt w w.heap.size (some ⟨g, 0, none⟩) l.length l := by
  subst e
  refine ⟨⟨rfl, hn⟩, fun _ => ⟨g, 0, rfl, h.lt, fun i x hx => ?_⟩⟩
  obtain ⟨r0, r1, r2, r3⟩ := keyCs_at hx
  unfold KeyCells
  rw [h.cell, h.cell, h.cell, h.cell, Nat.zero_add]
  exact ⟨by simpa using r0, by simpa using r1, by simpa using r2, by simpa using r3⟩

structure ExSt (w w' : World) (N : Nat) (A0 : Option Addr) (c0 : Nat) (A1 : Option Addr) (c1 : Nat) (A2 : Option Addr) (c2 : Nat) : Prop where
  a : Blk w' w.heap.size 35 #[.int .i64 2, .int .i64 0, .string { data := #[97] }, .int .i64 0]
  f : Blk w' (w.heap.size + 1) 35 #[.int .i64 3, .int .i64 0, .string { data := #[102] }, .int .i64 1]
  x : Blk w' N 26 #[.slice A0 5 c0, .slice A1 3 c1, .slice A2 1 c2]
  ix : IxAt w' w'.heap.size (.agg #[.slice A0 5 c0, .slice A1 3 c1, .slice A2 1 c2]) exI
  r : IntsAt w' w'.heap.size A2 1 [2]
  bel : Below w.heap.size w w'
theorem ExSt.next {w w' w2 : World} {N c0 c1 c2 : Nat} {A0 A1 A2 : Option Addr} (h : ExSt w w' N A0 c0 A1 c1 A2 c2) (hb : Below w'.heap.size w' w2) : ExSt w w2 N A0 c0 A1 c1 A2 c2 :=
  ⟨h.a.below hb h.a.lt, h.f.below hb h.f.lt, h.x.below hb h.x.lt, (h.ix.below hb).more hb.size, (h.r.below hb).more hb.size, bNext h.bel hb⟩
theorem ExSt.cellsA {w w' : World} {N c0 c1 c2 : Nat} {A0 A1 A2 : Option Addr} (h : ExSt w w' N A0 c0 A1 c1 A2 c2) :
    w'.cell? ⟨w.heap.size, 0, none⟩ = some (.int .i64 2) ∧ w'.cell? ⟨w.heap.size, 1, none⟩ = some (.int .i64 0) ∧ w'.cell? ⟨w.heap.size, 2, none⟩ = some (.string { data := #[97] }) ∧ w'.cell? ⟨w.heap.size, 3, none⟩ = some (.int .i64 0) := by
  rw [h.a.cell, h.a.cell, h.a.cell, h.a.cell]; exact ⟨rfl, rfl, rfl, rfl⟩
theorem ExSt.cellsF {w w' : World} {N c0 c1 c2 : Nat} {A0 A1 A2 : Option Addr} (h : ExSt w w' N A0 c0 A1 c1 A2 c2) :
    w'.cell? ⟨w.heap.size + 1, 0, none⟩ = some (.int .i64 3) ∧ w'.cell? ⟨w.heap.size + 1, 1, none⟩ = some (.int .i64 0) ∧ w'.cell? ⟨w.heap.size + 1, 2, none⟩ = some (.string { data := #[102] }) ∧ w'.cell? ⟨w.heap.size + 1, 3, none⟩ = some (.int .i64 1) := by
  rw [h.f.cell, h.f.cell, h.f.cell, h.f.cell]; exact ⟨rfl, rfl, rfl, rfl⟩
theorem ExSt.cellsX {w w' : World} {N c0 c1 c2 : Nat} {A0 A1 A2 : Option Addr} (h : ExSt w w' N A0 c0 A1 c1 A2 c2) :
    w'.cell? ⟨N, 0, none⟩ = some (.slice A0 5 c0) ∧ w'.cell? ⟨N, 1, none⟩ = some (.slice A1 3 c1) ∧ w'.cell? ⟨N, 2, none⟩ = some (.slice A2 1 c2) := by
  rw [h.x.cell, h.x.cell, h.x.cell]; exact ⟨rfl, rfl, rfl⟩

set_option maxRecDepth 100000 in
set_option maxHeartbeats 1000000 in
theorem example_any (w : World) :
    Calls Try.prog 14 #[] w fun e w' => e = .returned (.bool true) ∧ Below w.heap.size w w' := by
  obtain ⟨W, HW⟩ : ∃ W, Hid (W = ((w.alloc (.cells #[.int .i64 2, .int .i64 0, .string { data := #[97] }, .int .i64 0] 35)).alloc (.cells #[.int .i64 3, .int .i64 0, .string { data := #[102] }, .int .i64 1] 35)).alloc (.cells (keyCs exKeys).toArray 35)) := ⟨_, rfl⟩
  have hWb : Below w.heap.size w W := by rw [HW.out]; exact (((Below.refl _ _).alloc (Nat.le_refl _) _).alloc (by simp) _).alloc (by simp; omega) _
  have q1 : Blk W w.heap.size 35 #[.int .i64 2, .int .i64 0, .string { data := #[97] }, .int .i64 0] := by rw [HW.out]; exact ((Blk.new _ _ _).alloc _).alloc _
  have q2 : Blk W (w.heap.size + 1) 35 #[.int .i64 3, .int .i64 0, .string { data := #[102] }, .int .i64 1] := by
    rw [HW.out]; have := (Blk.new (w.alloc (.cells #[.int .i64 2, .int .i64 0, .string { data := #[97] }, .int .i64 0] 35)) 35 #[.int .i64 3, .int .i64 0, .string { data := #[102] }, .int .i64 1]).alloc (.cells (keyCs exKeys).toArray 35); simpa using this
  have q3 : Blk W (w.heap.size + 1 + 1) 35 (keyCs exKeys).toArray := by
    rw [HW.out]; have := Blk.new ((w.alloc (.cells #[.int .i64 2, .int .i64 0, .string { data := #[97] }, .int .i64 0] 35)).alloc (.cells #[.int .i64 3, .int .i64 0, .string { data := #[102] }, .int .i64 1] 35)) 35 (keyCs exKeys).toArray; simpa using this
  go_enter Try.func14, Try.ntmps14
  go_wp2_with fail
  have hB := Build_any (some ⟨w.heap.size + 1 + 1, 0, none⟩) 5 5 exKeys W (keys_blk exKeys q3 rfl (by decide))
  have hW2 := HW.out
  simp only [exKeys, keyCs, kA, kF, k7, zeroK] at hW2
  rw [← hW2]
  clear hW2
  refine hB.mono ?_
  rintro e w1 ⟨⟨v, rfl, hv⟩, hb1⟩
  rw [ex_build] at hv
  rw [ex_err]
  have hv0 := hv
  obtain ⟨A0, c0, A1, c1, A2, c2, rfl, ha0, ha1, ha2⟩ := hv
  simp only [exI, List.length_cons, List.length_nil, Nat.zero_add, Nat.reduceAdd] at ⊢
  obtain ⟨N, HN⟩ : ∃ N, Hid (N = w1.heap.size) := ⟨_, rfl⟩
  obtain ⟨V, HV⟩ : ∃ V, Hid (V = w1.alloc (.cells #[.slice A0 5 c0, .slice A1 3 c1, .slice A2 1 c2] 26)) := ⟨_, rfl⟩
  have st : ExSt w V N A0 c0 A1 c1 A2 c2 := by
    rw [HV.out, HN.out]
    exact ⟨(q1.below hb1 q1.lt).alloc _, (q2.below hb1 q2.lt).alloc _, Blk.new _ _ _, (hv0.below (bAlloc _ _)).more (by simp), (ha2.below (bAlloc _ _)).more (by simp), bNext (bNext hWb hb1) (bAlloc _ _)⟩
  have ST := Lib.hid st
  clear st hv0 ha0 ha1 ha2 hb1 q1 q2 q3 hB
  go_wp2_with fail
  have hsz : w1.heap.size + 1 = V.heap.size := by rw [HV.out]; simp
  rw [← HV.out, ← HN.out, HN.out, hsz, ← HN.out]
  have st2 := ST.out.next (bAlloc _ (.cells #[.int .i64 2] 3))
  refine (same_any A2 _ 1 1 c2 1 [2] [2] _ st2.r (ints_blk [2] (Blk.new V 3 #[.int .i64 2]) rfl (by decide))).mono ?_
  rintro e w2 ⟨rfl, q, e2⟩
  have ST3 := Lib.hid (st2.next (w2 := w2) (by rw [e2]; exact bDrewN (Below.refl _ _) q))
  rw [show sameL [2] [2] = true from by decide]
  obtain ⟨a0, a1, a2, a3⟩ := ST3.out.cellsA
  obtain ⟨x0, x1, x2⟩ := ST3.out.cellsX
  clear e2 st2
  go_wp2_with fail
  clear a0 a1 a2 a3 x0 x1 x2
  refine (Select_any _ exI kA _ ST3.out.ix).mono ?_
  rintro e w3 ⟨⟨B1, n1, d1, rfl, hs1⟩, hb3⟩
  rw [ex_valid, ex_selA] at hs1
  have hn1 := hs1.1.1
  simp at hn1
  subst hn1
  have ST4 := Lib.hid (ST3.out.next hb3)
  have HS1 := Lib.hid hs1
  clear hs1 hb3
  go_wp2_with fail
  have hba := bAlloc w3 (.cells #[.int .i64 0, .int .i64 2, .int .i64 3] 3)
  have st5 := ST4.out.next hba
  refine (same_any B1 _ 3 3 d1 3 [0, 2, 3] [0, 2, 3] _ ((HS1.out.below hba).more hba.size) (ints_blk [0, 2, 3] (Blk.new w3 3 #[.int .i64 0, .int .i64 2, .int .i64 3]) rfl (by decide))).mono ?_
  rintro e w4 ⟨rfl, q4, e4⟩
  have ST5 := Lib.hid (st5.next (w2 := w4) (by rw [e4]; exact bDrewN (Below.refl _ _) q4))
  rw [show sameL [0, 2, 3] [0, 2, 3] = true from by decide]
  obtain ⟨a0, a1, a2, a3⟩ := ST5.out.cellsF
  obtain ⟨x0, x1, x2⟩ := ST5.out.cellsX
  clear e4 st5 hba
  go_wp2_with fail
  clear a0 a1 a2 a3 x0 x1 x2
  refine (Select_any _ exI kF _ ST5.out.ix).mono ?_
  rintro e w5 ⟨⟨B2, n2, d2, rfl, hs2⟩, hb5⟩
  rw [ex_valid, ex_selF] at hs2
  have hn2 := hs2.1.1
  simp at hn2
  subst hn2
  have ST6 := Lib.hid (ST5.out.next hb5)
  have HS2 := Lib.hid hs2
  clear hs2 hb5
  go_wp2_with fail
  have hba := bAlloc w5 (.cells #[.int .i64 1, .int .i64 2] 3)
  have st7 := ST6.out.next hba
  refine (same_any B2 _ 2 2 d2 2 [1, 2] [1, 2] _ ((HS2.out.below hba).more hba.size) (ints_blk [1, 2] (Blk.new w5 3 #[.int .i64 1, .int .i64 2]) rfl (by decide))).mono ?_
  rintro e w6 ⟨rfl, q6, e6⟩
  have ST7 := Lib.hid (st7.next (w2 := w6) (by rw [e6]; exact bDrewN (Below.refl _ _) q6))
  rw [show sameL [1, 2] [1, 2] = true from by decide]
  obtain ⟨x0, x1, x2⟩ := ST7.out.cellsX
  clear e6 st7 hba
  go_wp2_with fail
  clear x0 x1 x2
  refine (Exclusive_any _ exI _ ST7.out.ix).mono ?_
  rintro e w7 ⟨rfl, hb7⟩
  rw [ex_valid, ex_ex]
  have ST8 := Lib.hid (ST7.out.next hb7)
  obtain ⟨x0, x1, x2⟩ := ST8.out.cellsX
  clear hb7
  go_wp2_with fail
  clear x0 x1 x2
  refine (Valid_any _ exI _ ST8.out.ix).mono ?_
  rintro e w8 ⟨rfl, hb8⟩
  rw [ex_valid]
  have ST9 := Lib.hid (ST8.out.next hb8)
  clear hb8
  go_wp2_with fail
  go_ret
  exact ⟨rfl, ST9.out.bel⟩
end Go.Proofs.Ytpkpdjekoghkcaa
