/-
  Walk: the law's one.
-/
import Derived.Test.YtcagaaacfcpoeaaDb
import Derived.Test.YtcagaaacfcpoeaaCu
namespace Go.Proofs.Ytcagaaacfcpoeaa
open Go.RowKit

def oneV (s : ByteArray) (a b : Tm) : Bool × Bool := ((callV (canonT (goalC s [a, b]))).1.length == 1, (callV (canonT (goalC s [a, b]))).2.2 == 0)
def OneR (r : Bool × Bool) (e : Ending) : Prop := e = .returned (.tuple #[.bool r.1, .bool r.2])
set_option maxRecDepth 100000 in
set_option maxHeartbeats 4000000 in
theorem one9_any (s : ByteArray) (a b : Tm) (Aa : Option Addr) (ca : Nat) (Ab : Option Addr) (cb : Nat) (w : World) (hra : rngT a = true) (hrb : rngT b = true) (ha : ArgsAt w (Old w.heap.size) Aa a.args) (hb : ArgsAt w (Old w.heap.size) Ab b.args) :
    Calls Try.prog 9 #[.string s, a.v Aa ca, b.v Ab cb] w fun e w' => OneR (oneV s a b) e ∧ Below w.heap.size w w' := by
  have HA := Lib.hid ha
  have HBA := Lib.hid hb
  clear ha hb
  have HB0 := Lib.hid ((bAlloc w (.cells #[.int .i64 a.kind, .int .i64 a.n, .string a.name, .slice Aa a.args.length ca] 24)).alloc (by simp) (.cells #[.int .i64 b.kind, .int .i64 b.n, .string b.name, .slice Ab b.args.length cb] 24))
  go_enter Try.func9, Try.ntmps9
  go_upto_region 1 with fail
  obtain ⟨w0, hw0⟩ : ∃ X, Hid (X = (w.alloc (.cells #[.int .i64 a.kind, .int .i64 a.n, .string a.name, .slice Aa a.args.length ca] 24)).alloc (.cells #[.int .i64 b.kind, .int .i64 b.n, .string b.name, .slice Ab b.args.length cb] 24)) := ⟨_, rfl⟩
  have k0 : Blk w0 w.heap.size 24 #[.int .i64 a.kind, .int .i64 a.n, .string a.name, .slice Aa a.args.length ca] := by rw [hw0.out]; exact (Blk.new w _ _).alloc _
  have k1 : Blk w0 (w.heap.size + 1) 24 #[.int .i64 b.kind, .int .i64 b.n, .string b.name, .slice Ab b.args.length cb] := by
    rw [hw0.out]
    have h := Blk.new (w.alloc (.cells #[.int .i64 a.kind, .int .i64 a.n, .string a.name, .slice Aa a.args.length ca] 24)) 24 #[.int .i64 b.kind, .int .i64 b.n, .string b.name, .slice Ab b.args.length cb]
    rwa [World.size_alloc] at h
  rw [← hw0.out] at HB0 ⊢
  clear hw0
  have e0 := k0.cell 0
  have e1 := k0.cell 1
  have e2 := k0.cell 2
  have e3 := k0.cell 3
  have el := k0.lt
  have b0 := k1.cell 0
  have b1 := k1.cell 1
  have b2 := k1.cell 2
  have b3 := k1.cell 3
  have bl := k1.lt
  simp at e0 e1 e2 e3 b0 b1 b2 b3
  clear k0 k1
  go_wp2_with fail
  obtain ⟨w1, hw1⟩ : ∃ X, Hid (X = w0.alloc (.cells #[.int .i64 a.kind, .int .i64 a.n, .string a.name, .slice Aa a.args.length ca, .int .i64 b.kind, .int .i64 b.n, .string b.name, .slice Ab b.args.length cb] 24)) := ⟨_, rfl⟩
  obtain ⟨g1, hg1⟩ : ∃ q, Hid (q = w0.heap.size) := ⟨_, rfl⟩
  rw [← hw1.out, ← hg1.out]
  have hb : Below w0.heap.size w0 w1 := by rw [hw1.out]; exact bAlloc _ _
  have HB1 := Lib.hid (bNext HB0.out hb)
  have HL1 := Lib.hid (show ArgsAt w1 (Old w1.heap.size) (some ⟨g1, 0, none⟩) [a, b] by
    rw [hw1.out, hg1.out]
    exact args_two (F := Old w0.heap.size) (x := a) (y := b) (A := Aa) (B := Ab) (c := ca) (d := cb) (ArgsNext HA.out HB0.out) (ArgsNext HBA.out HB0.out) (fun b hb => ⟨hb, by have : b < w0.heap.size := hb; simp; omega⟩) (by simp))
  clear hb hw1 e0 e1 e2 e3 el b0 b1 b2 b3 bl
  refine (goal16_any s [a, b] (some ⟨g1, 0, none⟩) 2 w1).mono ?_
  rintro e w2 ⟨rfl, hb⟩
  have HB2 := Lib.hid (bNext HB1.out hb)
  have HL2 := Lib.hid (ArgsNext HL1.out hb)
  clear hb
  go_wp2_with fail
  refine (canon15_any (goalC s [a, b]) (some ⟨g1, 0, none⟩) 2 w2 HL2.out).mono ?_
  rintro e w3 ⟨⟨A3, c3, rfl, ha3⟩, hb⟩
  have HB3 := Lib.hid (bNext HB2.out hb)
  have HA3 := Lib.hid (ha3.keep (w' := w3) (G := Old w3.heap.size) (fun _ _ => rfl) (fun _ h => h.2))
  have HRG := Lib.hid (rng_canon (t := goalC s [a, b]) (by rw [rngT_mk]; simp [rngT.go, hra, hrb, inR]))
  clear hb ha3
  have HO1 := Lib.hid (show oneV s a b = ((callV (canonT (goalC s [a, b]))).1.length == 1, (callV (canonT (goalC s [a, b]))).2.2 == 0) from rfl)
  obtain ⟨z, hz⟩ : ∃ z, Hid (z = canonT (goalC s [a, b])) := ⟨_, rfl⟩
  rw [← hz.out] at HA3 HRG HO1 ⊢
  clear hz
  go_wp2_with fail
  refine (call18_any z A3 c3 w3 HRG.out HA3.out).mono ?_
  rintro e w4 ⟨⟨v, A4, c4, rfl, ⟨Ao, co, rfl, -⟩, -⟩, hb⟩
  have HB4 := Lib.hid (bNext HB3.out hb)
  clear hb
  obtain ⟨⟨l, bb, code⟩, hcv⟩ : ∃ r, callV z = r := ⟨_, rfl⟩
  rw [hcv] at HO1 ⊢
  clear hcv
  go_wp2_with fail
  go_ret2
  refine ⟨?_, HB4.out.alloc HB4.out.size _⟩
  have hl : ((l.length : Int) == 1) = (l.length == 1) := by rw [Bool.eq_iff_iff]; simp; omega
  unfold OneR
  rw [HO1.out]
  simp [hl]
end Go.Proofs.Ytcagaaacfcpoeaa
