/-
  Walks: the key of a term, program and reference; the law IndexKeys.
-/
import Derived.Test.YtpkpdjekoghkcaaTd
import Derived.Test.YtpkpdjekoghkcaaOf
namespace Go.Proofs.Ytpkpdjekoghkcaa
open Go.RowKit

/-- the key of a term -/
def keyT (t : Tm) : K :=
  if validT t then
    if t.kind == 1 then ⟨1, t.n, .empty, 0⟩ else if t.kind == 2 then ⟨2, 0, t.name, 0⟩ else if t.kind == 3 then ⟨3, 0, t.name, t.args.length⟩ else zeroK
  else zeroK

set_option maxHeartbeats 400000 in
theorem keyP_any (t : Tm) (A : Option Addr) (c : Nat) (w : World) (ha : ArgsAt w (Old w.heap.size) A t.args) :
    Calls Try.prog 25 #[t.v A c] w fun e w' => e = .returned (keyT t).v ∧ Below w.heap.size w w' := by
  have HA := Lib.hid ha
  have hlen := ha.len
  clear ha
  go_enter Try.func25, Try.ntmps25
  go_wp2_with fail
  refine (validP_any t A c _ ((HA.out.later ((bAlloc _ _).alloc (by simp) _)).more (by simp; omega))).mono ?_
  rintro e w1 ⟨rfl, hb1⟩
  have hb0 : Below (w.heap.size + 1) (w.alloc (t.o A c)) ((w.alloc (t.o A c)).alloc (.cells #[.int .i64 0, .int .i64 0, .string .empty, .int .i64 0] 35)) := by simpa using bAlloc (w.alloc (t.o A c)) _
  have hbx := hb0.trans (hb1.mono (by simp))
  have hr : Blk w1 (w.heap.size + 1) 35 #[.int .i64 0, .int .i64 0, .string .empty, .int .i64 0] := by
    have h := Blk.new (w.alloc (t.o A c)) 35 #[.int .i64 0, .int .i64 0, .string .empty, .int .i64 0]
    rw [World.size_alloc] at h
    exact h.below hb1 (by simp)
  obtain ⟨p0, p1, p2, p3⟩ := tmBox hbx
  have r0 := hr.cell 0
  have r1 := hr.cell 1
  have r2 := hr.cell 2
  have r3 := hr.cell 3
  have f0 := hr.frozen 0
  have f1 := hr.frozen 1
  have f2 := hr.frozen 2
  have f3 := hr.frozen 3
  have zr := hr.lt
  simp at r0 r1 r2 r3
  have HW := Lib.hid (bBox hbx)
  clear hb0 hb1 hbx hr
  cases hv : validT t
  · have HK3 := Lib.hid (show keyT t = zeroK by simp [keyT, hv])
    clear hv
    go_wp2_with fail
    refine bodyPost_ret (v := (keyT t).v) (by rw [HK3.out]; simp [results, Try.results25, go_sem, zeroK, r0, r1, r2, r3]; try simp_all; try rfl) rfl ⟨rfl, ?_⟩
    repeat refine Below.setCell ?_ (by simp) _
    exact HW.out
  · cases h1 : t.kind == 1
    · cases h2 : t.kind == 2
      · cases h3 : t.kind == 3
        · have HK3 := Lib.hid (show keyT t = zeroK by simp [keyT, hv, h1, h2, h3])
          clear hv
          go_wp2_with fail
          refine bodyPost_ret (v := (keyT t).v) (by rw [HK3.out]; simp [results, Try.results25, go_sem, zeroK, r0, r1, r2, r3]; try simp_all; try rfl) rfl ⟨rfl, ?_⟩
          repeat refine Below.setCell ?_ (by simp) _
          exact HW.out
        · have HK3 := Lib.hid (show keyT t = ⟨3, 0, t.name, t.args.length⟩ by simp [keyT, hv, h1, h2, h3])
          clear hv
          go_wp2_with fail
          refine bodyPost_ret (v := (keyT t).v) (by rw [HK3.out]; simp [results, Try.results25, go_sem, r0, r1, r2, r3]; try simp_all; try rfl) rfl ⟨rfl, ?_⟩
          repeat refine Below.setCell ?_ (by simp) _
          exact HW.out
      · have HK3 := Lib.hid (show keyT t = ⟨2, 0, t.name, 0⟩ by simp [keyT, hv, h1, h2])
        clear hv
        go_wp2_with fail
        refine bodyPost_ret (v := (keyT t).v) (by rw [HK3.out]; simp [results, Try.results25, go_sem, r0, r1, r2, r3]; try simp_all; try rfl) rfl ⟨rfl, ?_⟩
        repeat refine Below.setCell ?_ (by simp) _
        exact HW.out
    · have HK3 := Lib.hid (show keyT t = ⟨1, t.n, .empty, 0⟩ by simp [keyT, hv, h1])
      clear hv
      go_wp2_with fail
      refine bodyPost_ret (v := (keyT t).v) (by rw [HK3.out]; simp [results, Try.results25, go_sem, r0, r1, r2, r3]; try simp_all; try rfl) rfl ⟨rfl, ?_⟩
      repeat refine Below.setCell ?_ (by simp) _
      exact HW.out

set_option maxHeartbeats 400000 in
theorem keyR_any (t : Tm) (A : Option Addr) (c : Nat) (w : World) (ha : ArgsAt w (Old w.heap.size) A t.args) :
    Calls Try.prog 26 #[t.v A c] w fun e w' => e = .returned (keyT t).v ∧ Below w.heap.size w w' := by
  have HA := Lib.hid ha
  have hlen := ha.len
  clear ha
  go_enter Try.func26, Try.ntmps26
  go_wp2_with fail
  refine (valid03_any t A c _ ((HA.out.later ((bAlloc _ _).alloc (by simp) _)).more (by simp; omega))).mono ?_
  rintro e w1 ⟨rfl, hb1⟩
  have hb0 : Below (w.heap.size + 1) (w.alloc (t.o A c)) ((w.alloc (t.o A c)).alloc (.cells #[.int .i64 0, .int .i64 0, .string .empty, .int .i64 0] 35)) := by simpa using bAlloc (w.alloc (t.o A c)) _
  have hbx := hb0.trans (hb1.mono (by simp))
  have hr : Blk w1 (w.heap.size + 1) 35 #[.int .i64 0, .int .i64 0, .string .empty, .int .i64 0] := by
    have h := Blk.new (w.alloc (t.o A c)) 35 #[.int .i64 0, .int .i64 0, .string .empty, .int .i64 0]
    rw [World.size_alloc] at h
    exact h.below hb1 (by simp)
  obtain ⟨p0, p1, p2, p3⟩ := tmBox hbx
  have r0 := hr.cell 0
  have r1 := hr.cell 1
  have r2 := hr.cell 2
  have r3 := hr.cell 3
  have f0 := hr.frozen 0
  have f1 := hr.frozen 1
  have f2 := hr.frozen 2
  have f3 := hr.frozen 3
  have zr := hr.lt
  simp at r0 r1 r2 r3
  have HW := Lib.hid (bBox hbx)
  clear hb0 hb1 hbx hr
  cases hv : validT t
  · have HK3 := Lib.hid (show keyT t = zeroK by simp [keyT, hv])
    clear hv
    go_wp2_with fail
    refine bodyPost_ret (v := (keyT t).v) (by rw [HK3.out]; simp [results, Try.results26, go_sem, zeroK, r0, r1, r2, r3]; try simp_all; try rfl) rfl ⟨rfl, ?_⟩
    repeat refine Below.setCell ?_ (by simp) _
    exact HW.out
  · cases h1 : t.kind == 1
    · cases h2 : t.kind == 2
      · cases h3 : t.kind == 3
        · have HK3 := Lib.hid (show keyT t = zeroK by simp [keyT, hv, h1, h2, h3])
          clear hv
          go_wp2_with fail
          refine bodyPost_ret (v := (keyT t).v) (by rw [HK3.out]; simp [results, Try.results26, go_sem, zeroK, r0, r1, r2, r3]; try simp_all; try rfl) rfl ⟨rfl, ?_⟩
          repeat refine Below.setCell ?_ (by simp) _
          exact HW.out
        · have HK3 := Lib.hid (show keyT t = ⟨3, 0, t.name, t.args.length⟩ by simp [keyT, hv, h1, h2, h3])
          clear hv
          go_wp2_with fail
          refine bodyPost_ret (v := (keyT t).v) (by rw [HK3.out]; simp [results, Try.results26, go_sem, r0, r1, r2, r3]; try simp_all; try rfl) rfl ⟨rfl, ?_⟩
          repeat refine Below.setCell ?_ (by simp) _
          exact HW.out
      · have HK3 := Lib.hid (show keyT t = ⟨2, 0, t.name, 0⟩ by simp [keyT, hv, h1, h2])
        clear hv
        go_wp2_with fail
        refine bodyPost_ret (v := (keyT t).v) (by rw [HK3.out]; simp [results, Try.results26, go_sem, r0, r1, r2, r3]; try simp_all; try rfl) rfl ⟨rfl, ?_⟩
        repeat refine Below.setCell ?_ (by simp) _
        exact HW.out
    · have HK3 := Lib.hid (show keyT t = ⟨1, t.n, .empty, 0⟩ by simp [keyT, hv, h1])
      clear hv
      go_wp2_with fail
      refine bodyPost_ret (v := (keyT t).v) (by rw [HK3.out]; simp [results, Try.results26, go_sem, r0, r1, r2, r3]; try simp_all; try rfl) rfl ⟨rfl, ?_⟩
      repeat refine Below.setCell ?_ (by simp) _
      exact HW.out
end Go.Proofs.Ytpkpdjekoghkcaa
