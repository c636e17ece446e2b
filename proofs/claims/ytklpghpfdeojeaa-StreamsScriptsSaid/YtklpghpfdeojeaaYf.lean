/-
  The law of StreamsScripts.
-/
import Derived.Test.YtklpghpfdeojeaaYd
import Derived.Test.YtklpghpfdeojeaaXb
import Derived.Test.YtklpghpfdeojeaaOa
import Derived.Test.YtklpghpfdeojeaaRegT
import Derived.Deep.Cut
namespace Go.Proofs.Ytklpghpfdeojeaa
open Go.RowKit

section
variable {P : Program} {ops : Array Oper} {Q : Exit → Act → World → Prop} {md : Region.Mode} {S : World → Prop} {need : Nat → Bool}
/-- one of three operations comes up -/
theorem wpAnyN_three {i j k : Nat} {oi oj ok : Oper} {fuel : Nat} {listed : Array Bool} {a : Act} {w : World} (hr : Region.ready md ops listed = [i, j, k]) (hoi : ops[i]? = some oi) (hoj : ops[j]? = some oj) (hok : ops[k]? = some ok)
    (h1 : ∀ K : Act → World → Prop, (∀ a w, (need i = true → S w) → wpAnyN P md ops Q S need fuel (listed.setIfInBounds i true) a w → K a w) → if Region.wanted oi (yielded ops a.tmps) = true then Oper.wp P oi a w K Q else K (a.put oi.dst undef) w)
    (h2 : ∀ K : Act → World → Prop, (∀ a w, (need j = true → S w) → wpAnyN P md ops Q S need fuel (listed.setIfInBounds j true) a w → K a w) → if Region.wanted oj (yielded ops a.tmps) = true then Oper.wp P oj a w K Q else K (a.put oj.dst undef) w)
    (h3 : ∀ K : Act → World → Prop, (∀ a w, (need k = true → S w) → wpAnyN P md ops Q S need fuel (listed.setIfInBounds k true) a w → K a w) → if Region.wanted ok (yielded ops a.tmps) = true then Oper.wp P ok a w K Q else K (a.put ok.dst undef) w) :
    wpAnyN P md ops Q S need (fuel + 1) listed a w := by
  refine ⟨fun h0 => absurd (hr ▸ h0) (by simp), fun q hq => ?_⟩
  rw [hr] at hq
  simp only [List.mem_cons, List.not_mem_nil, or_false] at hq
  rcases hq with rfl | rfl | rfl
  · exact wpOp_step hoi (fun K' hK => h1 K' (fun a w hS hW => hK a w ⟨hS, hW⟩))
  · exact wpOp_step hoj (fun K' hK => h2 K' (fun a w hS hW => hK a w ⟨hS, hW⟩))
  · exact wpOp_step hok (fun K' hK => h3 K' (fun a w hS hW => hK a w ⟨hS, hW⟩))
end
/-- one block alone is changed -/
structure Upd (p : Nat) (w w' : World) : Prop where
  os : w'.os = w.os
  tape : w'.tape = w.tape
  output : w'.output = w.output
  size : w'.heap.size = w.heap.size
  block : ∀ g, g ≠ p → w'.heap[g]? = w.heap[g]?
theorem Upd.refl (p : Nat) (w : World) : Upd p w w := ⟨rfl, rfl, rfl, rfl, fun _ _ => rfl⟩
theorem Upd.set {p : Nat} {w w' : World} (h : Upd p w w') (o : Nat) (u : Value) : Upd p w (w'.setCell ⟨p, o, none⟩ u) := by
  have hb : Below 0 w' (w'.setCell ⟨p, o, none⟩ u) := (Below.refl _ _).setCell (Nat.zero_le _) _
  exact ⟨hb.os.trans h.os, hb.tape.trans h.tape, hb.output.trans h.output, (by simp : (w'.setCell ⟨p, o, none⟩ u).heap.size = w'.heap.size).trans h.size, fun g hg => (heap_setCell_other _ _ _ _ (by simpa using hg)).trans (h.block g hg)⟩
theorem Upd.below {p B : Nat} {x w w' : World} (h : Upd p w w') (hb : Below B x w) (hp : B ≤ p) : Below B x w' :=
  ⟨h.os.trans hb.os, h.tape.trans hb.tape, h.output.trans hb.output, by rw [h.size]; exact hb.size, fun g hg => (h.block g (by omega)).trans (hb.block g hg)⟩
theorem Upd.blk {p g t : Nat} {cs : Array Value} {w w' : World} (h : Upd p w w') (hk : Blk w g t cs) (hg : g ≠ p) : Blk w' g t cs := (h.block g hg).trans hk
theorem put5 {w : World} {p : Nat} {a0 a1 a2 a3 a4 b0 b1 b2 b3 b4 : Value} (h : Blk w p 25 #[b0, b1, b2, b3, b4]) :
    Blk (((((w.setCell ⟨p, 0, none⟩ a0).setCell ⟨p, 1, none⟩ a1).setCell ⟨p, 2, none⟩ a2).setCell ⟨p, 3, none⟩ a3).setCell ⟨p, 4, none⟩ a4) p 25 #[a0, a1, a2, a3, a4] ∧
      Upd p w (((((w.setCell ⟨p, 0, none⟩ a0).setCell ⟨p, 1, none⟩ a1).setCell ⟨p, 2, none⟩ a2).setCell ⟨p, 3, none⟩ a3).setCell ⟨p, 4, none⟩ a4) := by
  refine ⟨?_, (((((Upd.refl p w).set 0 a0).set 1 a1).set 2 a2).set 3 a3).set 4 a4⟩
  have := ((((h.set_ 0 a0).set_ 1 a1).set_ 2 a2).set_ 3 a3).set_ 4 a4
  simpa using this
theorem put4 {w : World} {p : Nat} {a0 a1 a2 a3 b0 b1 b2 b3 : Value} (h : Blk w p 61 #[b0, b1, b2, b3]) :
    Blk ((((w.setCell ⟨p, 0, none⟩ a0).setCell ⟨p, 1, none⟩ a1).setCell ⟨p, 2, none⟩ a2).setCell ⟨p, 3, none⟩ a3) p 61 #[a0, a1, a2, a3] ∧
      Upd p w ((((w.setCell ⟨p, 0, none⟩ a0).setCell ⟨p, 1, none⟩ a1).setCell ⟨p, 2, none⟩ a2).setCell ⟨p, 3, none⟩ a3) := by
  refine ⟨?_, ((((Upd.refl p w).set 0 a0).set 1 a1).set 2 a2).set 3 a3⟩
  have := (((h.set_ 0 a0).set_ 1 a1).set_ 2 a2).set_ 3 a3
  simpa using this
/-- a state whose rows lie neither in block p nor in block q -/
def ApartS (p q : Nat) (w : World) (v : Value) (s : Sm) : Prop :=
  ∃ A0 c0 A1 c1, v = smV A0 A1 c0 c1 s ∧ ∀ W' : World, (∀ g, g ≠ p → g ≠ q → g < w.heap.size → W'.heap[g]? = w.heap[g]?) → w.heap.size ≤ W'.heap.size → SmAt W' W'.heap.size v s
section
variable {p q : Nat} {w w' : World} {v : Value} {s : Sm}
theorem ApartS.at (h : ApartS p q w v s) : SmAt w w.heap.size v s := by
  obtain ⟨A0, c0, A1, c1, e, hk⟩ := h
  exact hk w (fun _ _ _ _ => rfl) (Nat.le_refl _)
theorem ApartS.stay (h : ApartS p q w v s) (hk : ∀ g, g ≠ p → g ≠ q → g < w.heap.size → w'.heap[g]? = w.heap[g]?) (hz : w.heap.size ≤ w'.heap.size) : ApartS p q w' v s := by
  obtain ⟨A0, c0, A1, c1, e, h2⟩ := h
  exact ⟨A0, c0, A1, c1, e, fun W' hk' hz' => h2 W' (fun g h1 h3 h4 => (hk' g h1 h3 (by omega)).trans (hk g h1 h3 h4)) (by omega)⟩
theorem ApartS.next (h : ApartS p q w v s) (hb : Below w.heap.size w w') : ApartS p q w' v s := h.stay (fun g _ _ hg => hb.block g hg) hb.size
theorem ApartS.upd (h : ApartS p q w v s) (hu : Upd p w w') : ApartS p q w' v s := h.stay (fun g hg _ _ => hu.block g hg) (by rw [hu.size]; exact Nat.le_refl _)
theorem ApartS.upd' (h : ApartS p q w v s) (hu : Upd q w w') : ApartS p q w' v s := h.stay (fun g _ hg _ => hu.block g hg) (by rw [hu.size]; exact Nat.le_refl _)
theorem FreshS.apart {b : Nat} (h : FreshS w b v s) (hp : p < b ∨ w.heap.size ≤ p) (hq : q < b ∨ w.heap.size ≤ q) : ApartS p q w v s := by
  obtain ⟨A0, c0, A1, c1, e, h2⟩ := h
  exact ⟨A0, c0, A1, c1, e, fun W' hk' hz' => h2 W' (fun g h1 h3 => hk' g (by omega) (by omega) h3) hz'⟩
end
/-- behind a call whose state and answer were stored in two new blocks -/
def DrawnA (a b : Nat) (wr wx : World) (p q : Nat) (u : Sm) (t : T) : Prop :=
  ∃ C0 c0 C1 c1, (wr.heap.size ≤ p ∧ wr.heap.size ≤ q ∧ p ≠ q) ∧ Blk wx p 25 #[.slice C0 u.files.length c0, .slice C1 u.opn.length c1, .int .i64 u.inp, .int .i64 u.out, .int .i64 u.nxt] ∧
    Blk wx q 61 #[.int .i64 t.n, .string t.text, .bool t.is, .int .i64 t.e] ∧ ApartS a b wx (smV C0 C1 c0 c1 u) u ∧ Below wr.heap.size wr wx
theorem drawn_mk {a b p q : Nat} {wr wX w1 wY w2 w3 : World} {v : Value} {s u : Sm} {t : T} {C0 C1 : Option Addr} {c0 c1 : Nat} (ha : a < wr.heap.size) (hb : b < wr.heap.size)
    (hs : ApartS a b wr v s) (hX : Below wr.heap.size wr wX) (hc : FreshS w1 wX.heap.size (smV C0 C1 c0 c1 u) u ∨ smV C0 C1 c0 c1 u = v ∧ u = s) (hb1 : Below wX.heap.size wX w1) (hY : Below w1.heap.size w1 wY)
    (hp : (wr.heap.size ≤ p ∧ p < wX.heap.size) ∨ w1.heap.size ≤ p) (hq : (wr.heap.size ≤ q ∧ q < wX.heap.size) ∨ w1.heap.size ≤ q) (hpq : p ≠ q)
    (h2 : Upd p wY w2) (hP : Blk w2 p 25 #[.slice C0 u.files.length c0, .slice C1 u.opn.length c1, .int .i64 u.inp, .int .i64 u.out, .int .i64 u.nxt])
    (h3 : Upd q w2 w3) (hQ : Blk w3 q 61 #[.int .i64 t.n, .string t.text, .bool t.is, .int .i64 t.e]) : DrawnA a b wr w3 p q u t := by
  have hX1 := hX.size
  have hb2 := hb1.size
  have hp' : wr.heap.size ≤ p := by omega
  have hq' : wr.heap.size ≤ q := by omega
  have hB : Below wr.heap.size wr w3 := h3.below (h2.below (bNext (bNext hX hb1) hY) hp') hq'
  refine ⟨C0, c0, C1, c1, ⟨hp', hq', hpq⟩, h3.blk hP hpq, hQ, ?_, hB⟩
  rcases hc with hc | ⟨e, rfl⟩
  · have hz : w3.heap.size = wY.heap.size := by rw [h3.size, h2.size]
    refine (FreshS.stay hc (fun g h1 h4 => ?_) (by rw [hz]; exact hY.size)).apart (.inl (by omega)) (.inl (by omega))
    exact (h3.block g (by omega)).trans ((h2.block g (by omega)).trans (hY.block g h4))
  · rw [e]; exact hs.next hB
set_option maxHeartbeats 1000000 in
theorem t_neq (a e : Int) (t : ByteArray) (b : Bool) (w : World) :
    (binOp .neq 61 (.agg #[.int .i64 a, .string t, .bool b, .int .i64 e]) (.agg #[.int .i64 a, .string t, .bool b, .int .i64 e])).run Try.prog w = .ok (.bool false) w := by
  go_simp
  try simp
theorem RetA.at' {v v' : Value} {s u : Sm} {w w' : World} (h : FreshS w' w.heap.size v' u ∨ v' = v ∧ u = s) (hs : SmAt w w.heap.size v s) (hb : Below w.heap.size w w') : SmAt w' w'.heap.size v' u := by
  rcases h with h | ⟨rfl, rfl⟩
  · exact h.at
  · exact hs.next hb

set_option maxHeartbeats 16000000 in
set_option maxRecDepth 100000 in
theorem law_scripts (J : Option Addr) (n c : Nat) (fs : List F) (K1 : Option Addr) (k1 : Nat) (l : List A) (w : World) (ha : FilesAt w w.heap.size J n fs) (hcap : CapOk J n c) (hn : n ≤ 4398046510976)
    (hb : l.length * 64 ≤ reachBytes) (hr : RowAt w w.heap.size 6 (fun a : A => [.int .i64 a.what, .int .i64 a.id, .int .i64 a.n, .int .i64 a.eof, .string a.name, .string a.al]) K1 l) :
    Calls Try.prog 9 #[.slice J n c, .slice K1 l.length k1] w fun e w' => e = .returned (.bool true) ∧ Below w.heap.size w w' := by
  have HA := Lib.hid ha
  have HC := Lib.hid hcap
  have HR1 := Lib.hid hr
  simp only [reachBytes] at hb
  clear ha hcap hr
  obtain ⟨r, hr⟩ : ∃ r, newV fs = r := ⟨_, rfl⟩
  obtain ⟨s, hs⟩ : ∃ s, smOf r = s := ⟨_, rfl⟩
  have hcase : ((∃ er, errOf r = er ∧ (er = 1 ∨ er = 13)) ∨ (errOf r = 0 ∧ validB s = true)) ∧ s.files.length ≤ 16 ∧ s.opn.length ≤ 16 := by
    rw [← hs, ← hr]
    rcases newV_cases fs with ⟨er, h1, h2⟩ | ⟨h1, h2, h3⟩
    · rw [h1]; exact ⟨.inl ⟨er, rfl, h2⟩, Nat.zero_le _, Nat.zero_le _⟩
    · rw [h1]; exact ⟨.inr ⟨rfl, h2⟩, h3, by show (2 : Nat) ≤ 16; omega⟩
  obtain ⟨hc1, hf16, ho16⟩ := hcase
  obtain ⟨er, her⟩ : ∃ er, errOf r = er := ⟨_, rfl⟩
  rw [her] at hc1
  have HER := Lib.hid her
  have HSM := Lib.hid hs
  have HR := Lib.hid hr
  have HCS := Lib.hid hc1
  clear hr hs her hc1
  go_enter Try.func9, Try.ntmps9
  go_wp2_with fail
  refine (new_any J n c fs _ HA.out HC.out hn).mono ?_
  rintro e w1 ⟨⟨v', rfl, ho⟩, hb1⟩
  rw [HR.out] at ho ⊢
  rw [HSM.out] at ho
  rw [HER.out]
  replace ho := ho.fresh (by omega) (by omega)
  obtain ⟨D0, d0, D1, d1, hv, -⟩ := id ho
  obtain rfl : v' = .agg #[.slice D0 s.files.length d0, .slice D1 s.opn.length d1, .int .i64 s.inp, .int .i64 s.out, .int .i64 s.nxt] := hv
  obtain ⟨a5, ha5⟩ : ∃ a, a = w1.heap.size := ⟨_, rfl⟩
  have hz1 := hb1.size
  have HF1 := Lib.hid ho
  have HB1 := Lib.hid hb1
  clear ho hb1
  go_wp2_with fail
  obtain ⟨W1, HW1⟩ : ∃ W, Hid (W = w1.alloc (.cells #[.slice D0 s.files.length d0, .slice D1 s.opn.length d1, .int .i64 s.inp, .int .i64 s.out, .int .i64 s.nxt] 25)) := ⟨_, rfl⟩
  have hbA : Below w1.heap.size w1 W1 := by rw [HW1.out]; exact bAlloc _ _
  have hzA : W1.heap.size = w1.heap.size + 1 := by rw [HW1.out]; simp
  have q5 : Blk W1 a5 25 #[.slice D0 s.files.length d0, .slice D1 s.opn.length d1, .int .i64 s.inp, .int .i64 s.out, .int .i64 s.nxt] := by rw [HW1.out, ha5]; exact Blk.new _ _ _
  have HB1a := Lib.hid (bNext HB1.out hbA)
  rw [← HW1.out, ← ha5]
  have h5a : w1.heap.size ≤ a5 := by omega
  have h5b : a5 < W1.heap.size := by omega
  clear HW1 ha5
  refine (New_any J n c fs _ (HA.out.next HB1a.out) HC.out hn).mono ?_
  rintro e w2 ⟨⟨v', rfl, ho⟩, hb2⟩
  rw [HR.out] at ho ⊢
  rw [HSM.out] at ho
  rw [HER.out]
  replace ho := ho.fresh (by omega) (by omega)
  obtain ⟨E0, e0, E1, e1, hv, -⟩ := id ho
  obtain rfl : v' = .agg #[.slice E0 s.files.length e0, .slice E1 s.opn.length e1, .int .i64 s.inp, .int .i64 s.out, .int .i64 s.nxt] := hv
  obtain ⟨a7, ha7⟩ : ∃ a, a = w2.heap.size := ⟨_, rfl⟩
  have hz2 := hb2.size
  have HF2 := Lib.hid ho
  have HB2 := Lib.hid (bNext HB1a.out hb2)
  replace q5 := q5.next hb2
  have hAp1 := Lib.hid (((HF1.out.apart (p := a5) (q := a7) (.inr (by omega)) (.inr (by omega))).next hbA).next hb2)
  have hAp2 := Lib.hid (HF2.out.apart (p := a5) (q := a7) (.inl (by omega)) (.inr (by omega)))
  clear ho hb2 HF1 HF2 hbA
  obtain ⟨W2, HW2⟩ : ∃ W, Hid (W = w2.alloc (.cells #[.slice E0 s.files.length e0, .slice E1 s.opn.length e1, .int .i64 s.inp, .int .i64 s.out, .int .i64 s.nxt] 25)) := ⟨_, rfl⟩
  have hbA : Below w2.heap.size w2 W2 := by rw [HW2.out]; exact bAlloc _ _
  have HB2a := Lib.hid (bNext HB2.out hbA)
  have q7 := Lib.hid (show Blk W2 a7 25 #[.slice E0 s.files.length e0, .slice E1 s.opn.length e1, .int .i64 s.inp, .int .i64 s.out, .int .i64 s.nxt] by rw [HW2.out, ha7]; exact Blk.new _ _ _)
  replace q5 := Lib.hid (q5.next hbA)
  replace hAp1 := Lib.hid (hAp1.out.next hbA)
  replace hAp2 := Lib.hid (hAp2.out.next hbA)
  clear hbA
  go_upto_region 3 with fail
  rw [← HW2.out, ← ha7]
  have h57 : a5 ≠ a7 := by omega
  have h5w : w.heap.size ≤ a5 := by omega
  have h7w : w.heap.size ≤ a7 := by omega
  clear HW2 ha7 hz1 hz2 hzA h5a h5b
  rcases HCS.out with ⟨er', rfl, rfl | rfl⟩ | ⟨rfl, hv⟩
  · go_wp2_with fail
    go_loopw [9] (fun i wr => i = .int .i64 0 ∧ Hid (Below w.heap.size w wr)) (fun _ _ => 0)
    case atStart => exact ⟨rfl, HB2a⟩
    case round =>
      obtain ⟨rfl, HBr⟩ := hrel
      go_wp2_with fail
      refine (example_any _).mono ?_
      rintro e w4 ⟨rfl, hb4⟩
      have HB4 := Lib.hid (bNext HBr.out hb4)
      clear hb4
      go_wp2_with fail
      go_ret
      exact ⟨rfl, HB4.out⟩
  · go_wp2_with fail
    go_loopw [9] (fun i wr => i = .int .i64 0 ∧ Hid (Below w.heap.size w wr)) (fun _ _ => 0)
    case atStart => exact ⟨rfl, HB2a⟩
    case round =>
      obtain ⟨rfl, HBr⟩ := hrel
      go_wp2_with fail
      refine (example_any _).mono ?_
      rintro e w4 ⟨rfl, hb4⟩
      have HB4 := Lib.hid (bNext HBr.out hb4)
      clear hb4
      go_wp2_with fail
      go_ret
      exact ⟨rfl, HB4.out⟩
  · have HV := Lib.hid hv
    clear hv
    go_wp2_with fail
    go_loopw [9] (fun i wr => ∃ k : Nat, k ≤ 60 ∧ k ≤ l.length ∧ i = .int .i64 (k : Int) ∧ ∃ (s : Sm) (C0 : Option Addr) (c0 : Nat) (C1 : Option Addr) (c1 : Nat) (D0 : Option Addr) (d0 : Nat) (D1 : Option Addr) (d1 : Nat), Hid (Below w.heap.size w wr) ∧ Hid (Blk wr a5 25 #[.slice C0 s.files.length c0, .slice C1 s.opn.length c1, .int .i64 s.inp, .int .i64 s.out, .int .i64 s.nxt]) ∧ Hid (Blk wr a7 25 #[.slice D0 s.files.length d0, .slice D1 s.opn.length d1, .int .i64 s.inp, .int .i64 s.out, .int .i64 s.nxt]) ∧ Hid (ApartS a5 a7 wr (.agg #[.slice C0 s.files.length c0, .slice C1 s.opn.length c1, .int .i64 s.inp, .int .i64 s.out, .int .i64 s.nxt]) s) ∧ Hid (ApartS a5 a7 wr (.agg #[.slice D0 s.files.length d0, .slice D1 s.opn.length d1, .int .i64 s.inp, .int .i64 s.out, .int .i64 s.nxt]) s) ∧ Hid (validB s = true)) (fun i _ => 60 - (intOf i).toNat)
    case atStart => exact ⟨0, by omega, by omega, rfl, s, _, _, _, _, _, _, _, _, HB2a, q5, q7, hAp1, hAp2, HV⟩
    case round =>
      clear HB2a q5 q7 hAp1 hAp2 HV HER HSM HR HCS hf16 ho16 HB1 HB1a HB2
      obtain ⟨k, hk, hkl, rfl, s, C0, c0, C1, c1, D0, d0, D1, d1, HB, H5, H7, HA5, HA7, HV⟩ := hrel
      by_cases hlt : k < l.length
      · by_cases h60 : k < 60
        · obtain ⟨ab, ao, rfl, hab, hrow⟩ := HR1.out (by omega)
          obtain ⟨x, hx⟩ : ∃ x, l[k]? = some x := ⟨_, List.getElem?_eq_getElem hlt⟩
          obtain ⟨r, hr⟩ : ∃ r, actV s x = r := ⟨_, rfl⟩
          obtain ⟨u, t⟩ := r
          have HACT := Lib.hid (fun (w : World) (v : Value) (h : SmAt w w.heap.size v s) => (by have h1 := act_any v s x w h; rw [hr] at h1; exact h1 : Calls Try.prog 26 #[v, .agg #[.int .i64 x.what, .int .i64 x.id, .int .i64 x.n, .int .i64 x.eof, .string x.name, .string x.al]] w (RetA v s (u, t) w)))
          have HWANT := Lib.hid (fun (w : World) (v : Value) (h : SmAt w w.heap.size v s) => (by have h1 := want_any v s x w h; rw [hr] at h1; exact h1 : Calls Try.prog 27 #[v, .agg #[.int .i64 x.what, .int .i64 x.id, .int .i64 x.n, .int .i64 x.eof, .string x.name, .string x.al]] w (RetA v s (u, t) w)))
          have HVU := Lib.hid (fun h : t.e = 0 => (by have h1 := actV_valid HV.out x (by rw [hr]; exact h); rw [hr] at h1; exact h1 : validB u = true))
          have x0 : wr.cell? ⟨ab, ao + k * 6, none⟩ = some (.int .i64 x.what) := (HB.out.cell (p := ⟨ab, _, none⟩) hab).trans (hrow k x hx 0 _ rfl)
          have x1 : wr.cell? ⟨ab, ao + k * 6 + 1, none⟩ = some (.int .i64 x.id) := (HB.out.cell (p := ⟨ab, _, none⟩) hab).trans (hrow k x hx 1 _ rfl)
          have x2 : wr.cell? ⟨ab, ao + k * 6 + 2, none⟩ = some (.int .i64 x.n) := (HB.out.cell (p := ⟨ab, _, none⟩) hab).trans (hrow k x hx 2 _ rfl)
          have x3 : wr.cell? ⟨ab, ao + k * 6 + 3, none⟩ = some (.int .i64 x.eof) := (HB.out.cell (p := ⟨ab, _, none⟩) hab).trans (hrow k x hx 3 _ rfl)
          have x4 : wr.cell? ⟨ab, ao + k * 6 + 4, none⟩ = some (.string x.name) := (HB.out.cell (p := ⟨ab, _, none⟩) hab).trans (hrow k x hx 4 _ rfl)
          have x5 : wr.cell? ⟨ab, ao + k * 6 + 5, none⟩ = some (.string x.al) := (HB.out.cell (p := ⟨ab, _, none⟩) hab).trans (hrow k x hx 5 _ rfl)
          have hl5 := H5.out.lt
          have hl7 := H7.out.lt
          have hlb := HB.out.size
          have hab' : ab < wr.heap.size := by omega
          have h5 := H5.out
          clear hr hx hrow
          go_upto_region 8 with fail
          go_cut [10, 11] from 36 to 49 (fun s10 s11 wx => ∃ p q, s10 = .pointer (some ⟨p, 0, none⟩) ∧ s11 = .pointer (some ⟨q, 0, none⟩) ∧ Hid (DrawnA a5 a7 wr wx p q u t))
          case first =>
            refine wp_region_N (fun w' => Below wr.heap.size wr w') (fun _ => true) (by kernel_rfl) ?_
            have hS0 : (fun w' => Below wr.heap.size wr w') wr.drew := bDrewN (Below.refl _ _) 1
            obtain ⟨X0, HX0⟩ : ∃ X, Hid (X = wr.drew) := ⟨_, rfl⟩
            rw [← HX0.out] at hS0 ⊢
            have hS0 : Below wr.heap.size wr X0 := hS0
            clear HX0
            refine wpAnyN_take (i := 0) (v := ?v1) rfl (by kernel_rfl) (by kernel_rfl) (by kernel_rfl) (by kernel_rfl) (fun _ _ _ h => h) (Or.inl ⟨by rfl, ?hy1⟩) (by assumption) ?_
            case hy1 => intro w hSw; have e := h5.below hSw h5.lt; have e0 := e.cell 0; have e1 := e.cell 1; have e2 := e.cell 2; have e3 := e.cell 3; have e4 := e.cell 4; simp at e0 e1 e2 e3 e4; go_simp; try with_reducible rfl
            simp only [Act.put, List.getElem_toArray, List.getElem_cons_zero, List.setIfInBounds_toArray, List.set_cons_zero, List.set_cons_succ]
            refine wpAnyN_take (i := 1) (v := ?v2) rfl (by kernel_rfl) (by kernel_rfl) (by kernel_rfl) (by kernel_rfl) (fun _ _ _ h => h) (Or.inl ⟨by rfl, ?hy2⟩) (by assumption) ?_
            case hy2 => intro w hSw; (try dsimp only at hSw); go_simp; try with_reducible rfl
            simp only [Act.put, List.getElem_toArray, List.getElem_cons_zero, List.getElem_cons_succ, List.setIfInBounds_toArray, List.set_cons_zero, List.set_cons_succ]
            refine wpAnyN_take (i := 2) (v := ?v3) rfl (by kernel_rfl) (by kernel_rfl) (by kernel_rfl) (by kernel_rfl) (fun _ _ _ h => h) (Or.inl ⟨by rfl, ?hy3⟩) (by assumption) ?_
            case hy3 => intro w hSw; (try dsimp only at hSw); go_simp; try with_reducible rfl
            simp only [Act.put, List.getElem_toArray, List.getElem_cons_zero, List.getElem_cons_succ, List.setIfInBounds_toArray, List.set_cons_zero, List.set_cons_succ]
            refine wpAnyN_take (i := 3) (v := ?v4) rfl (by kernel_rfl) (by kernel_rfl) (by kernel_rfl) (by kernel_rfl) (fun _ _ _ h => h) (Or.inl ⟨by rfl, ?hy4⟩) (by assumption) ?_
            case hy4 => intro w hSw; (try dsimp only at hSw); go_simp; try with_reducible rfl
            simp only [Act.put, List.getElem_toArray, List.getElem_cons_zero, List.getElem_cons_succ, List.setIfInBounds_toArray, List.set_cons_zero, List.set_cons_succ]
            refine wpAnyN_take (i := 4) (v := ?v5) rfl (by kernel_rfl) (by kernel_rfl) (by kernel_rfl) (by kernel_rfl) (fun _ _ _ h => h) (Or.inl ⟨by rfl, ?hy5⟩) (by assumption) ?_
            case hy5 => intro w hSw; have e0 := (hSw.cell (p := ⟨ab, _, none⟩) hab').trans x0; have e1 := (hSw.cell (p := ⟨ab, _, none⟩) hab').trans x1; have e2 := (hSw.cell (p := ⟨ab, _, none⟩) hab').trans x2; have e3 := (hSw.cell (p := ⟨ab, _, none⟩) hab').trans x3; have e4 := (hSw.cell (p := ⟨ab, _, none⟩) hab').trans x4; have e5 := (hSw.cell (p := ⟨ab, _, none⟩) hab').trans x5; go_simp; try with_reducible rfl
            simp only [Act.put, List.getElem_toArray, List.getElem_cons_zero, List.getElem_cons_succ, List.setIfInBounds_toArray, List.set_cons_zero, List.set_cons_succ]
            refine wpAnyN_three (i := 5) (j := 9) (k := 10) (by kernel_rfl) rfl rfl rfl (fun K hK => ?_) (fun K hK => ?_) (fun K hK => ?_)
            · simp only [List.getElem_toArray, List.getElem_cons_zero, List.getElem_cons_succ]
              go_simp
              refine (HACT.out _ _ (HA5.out.at.next hS0)).mono ?_
              rintro e X1 ⟨⟨v', rfl, hf⟩, hb1⟩
              have hm := RetA.at' hf (HA5.out.at.next hS0) hb1
              obtain ⟨C0, c0, C1, c1, hv, -, -, -⟩ := hm
              obtain rfl : v' = .agg #[.slice C0 u.files.length c0, .slice C1 u.opn.length c1, .int .i64 u.inp, .int .i64 u.out, .int .i64 u.nxt] := hv
              dsimp only [T.v]
              have hS1 := bNext hS0 hb1
              refine hK _ _ (fun _ => hS1) ?_
              refine wpAnyN_take (i := 6) (v := ?v6) rfl (by kernel_rfl) (by kernel_rfl) (by kernel_rfl) (by kernel_rfl) (fun _ _ _ h => h) (Or.inl ⟨by rfl, ?hy6⟩) (by assumption) ?_
              case hy6 => intro w hSw; (try dsimp only at hSw); go_simp; try with_reducible rfl
              simp only [Act.put, List.getElem_toArray, List.getElem_cons_zero, List.getElem_cons_succ, List.setIfInBounds_toArray, List.set_cons_zero, List.set_cons_succ]
              refine wpAnyN_take (i := 7) (v := ?v7) rfl (by kernel_rfl) (by kernel_rfl) (by kernel_rfl) (by kernel_rfl) (fun _ _ _ h => h) (Or.inl ⟨by rfl, ?hy7⟩) (by assumption) ?_
              case hy7 => intro w hSw; (try dsimp only at hSw); go_simp; try with_reducible rfl
              simp only [Act.put, List.getElem_toArray, List.getElem_cons_zero, List.getElem_cons_succ, List.setIfInBounds_toArray, List.set_cons_zero, List.set_cons_succ]
              refine wpAnyN_take (i := 8) (v := ?v8) rfl (by kernel_rfl) (by kernel_rfl) (by kernel_rfl) (by kernel_rfl) (fun _ _ _ h => h) (Or.inl ⟨by rfl, ?hy8⟩) (by assumption) ?_
              case hy8 => intro w hSw; (try dsimp only at hSw); go_simp; try with_reducible rfl
              simp only [Act.put, List.getElem_toArray, List.getElem_cons_zero, List.getElem_cons_succ, List.setIfInBounds_toArray, List.set_cons_zero, List.set_cons_succ]
              (try simp only [Act.put, List.setIfInBounds_toArray, List.set_cons_zero, List.set_cons_succ])
              refine wpAnyN_two (i := 9) (j := 10) (by kernel_rfl) rfl rfl (fun K hK => ?_) (fun K hK => ?_)
              · simp only [List.getElem_toArray, List.getElem_cons_zero, List.getElem_cons_succ]
                go_simp
                obtain ⟨X2, HX⟩ : ∃ X, Hid (X = X1.alloc (.cells #[.slice none 0 0, .slice none 0 0, .int .i64 0, .int .i64 0, .int .i64 0] 25)) := ⟨_, rfl⟩
                have hb2 : Below X1.heap.size X1 X2 := by rw [HX.out]; exact bAlloc _ _
                have hz2 : X1.heap.size < X2.heap.size := by rw [HX.out]; simp
                have hP : Blk X2 X1.heap.size 25 #[.slice none 0 0, .slice none 0 0, .int .i64 0, .int .i64 0, .int .i64 0] := by rw [HX.out]; exact Blk.new _ _ _
                rw [← HX.out]
                clear HX
                have hS2 := bNext hS1 hb2
                refine hK _ _ (fun _ => hS2) ?_
                (try simp only [Act.put, List.setIfInBounds_toArray, List.set_cons_zero, List.set_cons_succ])
                refine wpAnyN_one (i := 10) (by kernel_rfl) rfl (fun K hK => ?_)
                simp only [List.getElem_toArray, List.getElem_cons_zero, List.getElem_cons_succ]
                go_simp
                obtain ⟨X3, HX⟩ : ∃ X, Hid (X = X2.alloc (.cells #[.int .i64 0, .string ⟨#[]⟩, .bool false, .int .i64 0] 61)) := ⟨_, rfl⟩
                have hb3 : Below X2.heap.size X2 X3 := by rw [HX.out]; exact bAlloc _ _
                have hz3 : X2.heap.size < X3.heap.size := by rw [HX.out]; simp
                have hQ : Blk X3 X2.heap.size 61 #[.int .i64 0, .string ⟨#[]⟩, .bool false, .int .i64 0] := by rw [HX.out]; exact Blk.new _ _ _
                rw [← HX.out]
                clear HX
                have hS3 := bNext hS2 hb3
                refine hK _ _ (fun _ => hS3) ?_
                (try simp only [Act.put, List.setIfInBounds_toArray, List.set_cons_zero, List.set_cons_succ])
                replace hP := hP.next hb3
                have hy1 := hb1.size
                have hy2 := hb2.size
                have hy3 := hb3.size
                have hpq : X1.heap.size ≠ X2.heap.size := by omega
                have hy0 := hS0.size
                have f0 := hP.frozen 0; have f1 := hP.frozen 1; have f2 := hP.frozen 2; have f3 := hP.frozen 3; have f4 := hP.frozen 4
                have g0 := hP.cell 0; have g1 := hP.cell 1; have g2 := hP.cell 2; have g3 := hP.cell 3; have g4 := hP.cell 4
                have gl := hP.lt
                simp at g0 g1 g2 g3 g4
                refine wpAnyN_one (i := 11) (by kernel_rfl) rfl (fun K hK => ?_)
                simp only [List.getElem_toArray, List.getElem_cons_zero, List.getElem_cons_succ]
                go_simp
                obtain ⟨hW, hU⟩ := put5 (a0 := .slice C0 u.files.length c0) (a1 := .slice C1 u.opn.length c1) (a2 := .int .i64 u.inp) (a3 := .int .i64 u.out) (a4 := .int .i64 u.nxt) hP
                obtain ⟨X4, HX⟩ : ∃ X, Hid (X = (((((X3.setCell ⟨X1.heap.size, 0, none⟩ (.slice C0 u.files.length c0)).setCell ⟨X1.heap.size, 1, none⟩ (.slice C1 u.opn.length c1)).setCell ⟨X1.heap.size, 2, none⟩ (.int .i64 u.inp)).setCell ⟨X1.heap.size, 3, none⟩ (.int .i64 u.out)).setCell ⟨X1.heap.size, 4, none⟩ (.int .i64 u.nxt))) := ⟨_, rfl⟩
                rw [← HX.out] at hW hU ⊢
                clear HX f0 f1 f2 f3 f4 g0 g1 g2 g3 g4
                have hS4 := hU.below hS3 (by omega)
                refine hK _ _ (fun _ => hS4) ?_
                (try simp only [Act.put, List.setIfInBounds_toArray, List.set_cons_zero, List.set_cons_succ])
                replace hQ := hU.blk hQ (Ne.symm hpq)
                have f0 := hQ.frozen 0; have f1 := hQ.frozen 1; have f2 := hQ.frozen 2; have f3 := hQ.frozen 3
                have g0 := hQ.cell 0; have g1 := hQ.cell 1; have g2 := hQ.cell 2; have g3 := hQ.cell 3
                have gm := hQ.lt
                simp at g0 g1 g2 g3
                refine wpAnyN_one (i := 12) (by kernel_rfl) rfl (fun K hK => ?_)
                simp only [List.getElem_toArray, List.getElem_cons_zero, List.getElem_cons_succ]
                go_simp
                obtain ⟨hT, hU2⟩ := put4 (a0 := .int .i64 t.n) (a1 := .string t.text) (a2 := .bool t.is) (a3 := .int .i64 t.e) hQ
                obtain ⟨X5, HX⟩ : ∃ X, Hid (X = ((((X4.setCell ⟨X2.heap.size, 0, none⟩ (.int .i64 t.n)).setCell ⟨X2.heap.size, 1, none⟩ (.string t.text)).setCell ⟨X2.heap.size, 2, none⟩ (.bool t.is)).setCell ⟨X2.heap.size, 3, none⟩ (.int .i64 t.e))) := ⟨_, rfl⟩
                rw [← HX.out] at hT hU2 ⊢
                clear HX f0 f1 f2 f3 g0 g1 g2 g3
                have hS5 := hU2.below hS4 (by omega)
                refine hK _ _ (fun _ => hS5) ?_
                (try simp only [Act.put, List.setIfInBounds_toArray, List.set_cons_zero, List.set_cons_succ])
                refine wpAnyN_done (by kernel_rfl) ?_ _
                go_wp2_with fail
                go_meet
                exact ⟨_, _, rfl, rfl, Lib.hid (drawn_mk (p := X1.heap.size) (q := X2.heap.size) (wX := X0) (w1 := X1) (wY := X3) (w2 := X4) hl5 hl7 HA5.out hS0 hf hb1 (bNext (bNext (Below.refl _ _) hb2) hb3) (by omega) (by omega) hpq hU hW hU2 hT)⟩
              · simp only [List.getElem_toArray, List.getElem_cons_zero, List.getElem_cons_succ]
                go_simp
                obtain ⟨X2, HX⟩ : ∃ X, Hid (X = X1.alloc (.cells #[.int .i64 0, .string ⟨#[]⟩, .bool false, .int .i64 0] 61)) := ⟨_, rfl⟩
                have hb2 : Below X1.heap.size X1 X2 := by rw [HX.out]; exact bAlloc _ _
                have hz2 : X1.heap.size < X2.heap.size := by rw [HX.out]; simp
                have hQ : Blk X2 X1.heap.size 61 #[.int .i64 0, .string ⟨#[]⟩, .bool false, .int .i64 0] := by rw [HX.out]; exact Blk.new _ _ _
                rw [← HX.out]
                clear HX
                have hS2 := bNext hS1 hb2
                refine hK _ _ (fun _ => hS2) ?_
                (try simp only [Act.put, List.setIfInBounds_toArray, List.set_cons_zero, List.set_cons_succ])
                refine wpAnyN_one (i := 9) (by kernel_rfl) rfl (fun K hK => ?_)
                simp only [List.getElem_toArray, List.getElem_cons_zero, List.getElem_cons_succ]
                go_simp
                obtain ⟨X3, HX⟩ : ∃ X, Hid (X = X2.alloc (.cells #[.slice none 0 0, .slice none 0 0, .int .i64 0, .int .i64 0, .int .i64 0] 25)) := ⟨_, rfl⟩
                have hb3 : Below X2.heap.size X2 X3 := by rw [HX.out]; exact bAlloc _ _
                have hz3 : X2.heap.size < X3.heap.size := by rw [HX.out]; simp
                have hP : Blk X3 X2.heap.size 25 #[.slice none 0 0, .slice none 0 0, .int .i64 0, .int .i64 0, .int .i64 0] := by rw [HX.out]; exact Blk.new _ _ _
                rw [← HX.out]
                clear HX
                have hS3 := bNext hS2 hb3
                refine hK _ _ (fun _ => hS3) ?_
                (try simp only [Act.put, List.setIfInBounds_toArray, List.set_cons_zero, List.set_cons_succ])
                replace hQ := hQ.next hb3
                have hy1 := hb1.size
                have hy2 := hb2.size
                have hy3 := hb3.size
                have hpq : X2.heap.size ≠ X1.heap.size := by omega
                have hy0 := hS0.size
                have f0 := hP.frozen 0; have f1 := hP.frozen 1; have f2 := hP.frozen 2; have f3 := hP.frozen 3; have f4 := hP.frozen 4
                have g0 := hP.cell 0; have g1 := hP.cell 1; have g2 := hP.cell 2; have g3 := hP.cell 3; have g4 := hP.cell 4
                have gl := hP.lt
                simp at g0 g1 g2 g3 g4
                refine wpAnyN_one (i := 11) (by kernel_rfl) rfl (fun K hK => ?_)
                simp only [List.getElem_toArray, List.getElem_cons_zero, List.getElem_cons_succ]
                go_simp
                obtain ⟨hW, hU⟩ := put5 (a0 := .slice C0 u.files.length c0) (a1 := .slice C1 u.opn.length c1) (a2 := .int .i64 u.inp) (a3 := .int .i64 u.out) (a4 := .int .i64 u.nxt) hP
                obtain ⟨X4, HX⟩ : ∃ X, Hid (X = (((((X3.setCell ⟨X2.heap.size, 0, none⟩ (.slice C0 u.files.length c0)).setCell ⟨X2.heap.size, 1, none⟩ (.slice C1 u.opn.length c1)).setCell ⟨X2.heap.size, 2, none⟩ (.int .i64 u.inp)).setCell ⟨X2.heap.size, 3, none⟩ (.int .i64 u.out)).setCell ⟨X2.heap.size, 4, none⟩ (.int .i64 u.nxt))) := ⟨_, rfl⟩
                rw [← HX.out] at hW hU ⊢
                clear HX f0 f1 f2 f3 f4 g0 g1 g2 g3 g4
                have hS4 := hU.below hS3 (by omega)
                refine hK _ _ (fun _ => hS4) ?_
                (try simp only [Act.put, List.setIfInBounds_toArray, List.set_cons_zero, List.set_cons_succ])
                replace hQ := hU.blk hQ (Ne.symm hpq)
                have f0 := hQ.frozen 0; have f1 := hQ.frozen 1; have f2 := hQ.frozen 2; have f3 := hQ.frozen 3
                have g0 := hQ.cell 0; have g1 := hQ.cell 1; have g2 := hQ.cell 2; have g3 := hQ.cell 3
                have gm := hQ.lt
                simp at g0 g1 g2 g3
                refine wpAnyN_one (i := 12) (by kernel_rfl) rfl (fun K hK => ?_)
                simp only [List.getElem_toArray, List.getElem_cons_zero, List.getElem_cons_succ]
                go_simp
                obtain ⟨hT, hU2⟩ := put4 (a0 := .int .i64 t.n) (a1 := .string t.text) (a2 := .bool t.is) (a3 := .int .i64 t.e) hQ
                obtain ⟨X5, HX⟩ : ∃ X, Hid (X = ((((X4.setCell ⟨X1.heap.size, 0, none⟩ (.int .i64 t.n)).setCell ⟨X1.heap.size, 1, none⟩ (.string t.text)).setCell ⟨X1.heap.size, 2, none⟩ (.bool t.is)).setCell ⟨X1.heap.size, 3, none⟩ (.int .i64 t.e))) := ⟨_, rfl⟩
                rw [← HX.out] at hT hU2 ⊢
                clear HX f0 f1 f2 f3 g0 g1 g2 g3
                have hS5 := hU2.below hS4 (by omega)
                refine hK _ _ (fun _ => hS5) ?_
                (try simp only [Act.put, List.setIfInBounds_toArray, List.set_cons_zero, List.set_cons_succ])
                refine wpAnyN_done (by kernel_rfl) ?_ _
                go_wp2_with fail
                go_meet
                exact ⟨_, _, rfl, rfl, Lib.hid (drawn_mk (p := X2.heap.size) (q := X1.heap.size) (wX := X0) (w1 := X1) (wY := X3) (w2 := X4) hl5 hl7 HA5.out hS0 hf hb1 (bNext (bNext (Below.refl _ _) hb2) hb3) (by omega) (by omega) hpq hU hW hU2 hT)⟩
            · simp only [List.getElem_toArray, List.getElem_cons_zero, List.getElem_cons_succ]
              go_simp
              obtain ⟨X1, HX⟩ : ∃ X, Hid (X = X0.alloc (.cells #[.slice none 0 0, .slice none 0 0, .int .i64 0, .int .i64 0, .int .i64 0] 25)) := ⟨_, rfl⟩
              have hb1 : Below X0.heap.size X0 X1 := by rw [HX.out]; exact bAlloc _ _
              have hz1 : X0.heap.size < X1.heap.size := by rw [HX.out]; simp
              have hP : Blk X1 X0.heap.size 25 #[.slice none 0 0, .slice none 0 0, .int .i64 0, .int .i64 0, .int .i64 0] := by rw [HX.out]; exact Blk.new _ _ _
              rw [← HX.out]
              clear HX
              have hS1 := bNext hS0 hb1
              refine hK _ _ (fun _ => hS1) ?_
              (try simp only [Act.put, List.setIfInBounds_toArray, List.set_cons_zero, List.set_cons_succ])
              refine wpAnyN_two (i := 5) (j := 10) (by kernel_rfl) rfl rfl (fun K hK => ?_) (fun K hK => ?_)
              · simp only [List.getElem_toArray, List.getElem_cons_zero, List.getElem_cons_succ]
                go_simp
                refine (HACT.out _ _ (HA5.out.at.next hS1)).mono ?_
                rintro e X2 ⟨⟨v', rfl, hf⟩, hb2⟩
                have hm := RetA.at' hf (HA5.out.at.next hS1) hb2
                obtain ⟨C0, c0, C1, c1, hv, -, -, -⟩ := hm
                obtain rfl : v' = .agg #[.slice C0 u.files.length c0, .slice C1 u.opn.length c1, .int .i64 u.inp, .int .i64 u.out, .int .i64 u.nxt] := hv
                dsimp only [T.v]
                have hS2 := bNext hS1 hb2
                refine hK _ _ (fun _ => hS2) ?_
                refine wpAnyN_take (i := 6) (v := ?v9) rfl (by kernel_rfl) (by kernel_rfl) (by kernel_rfl) (by kernel_rfl) (fun _ _ _ h => h) (Or.inl ⟨by rfl, ?hy9⟩) (by assumption) ?_
                case hy9 => intro w hSw; (try dsimp only at hSw); go_simp; try with_reducible rfl
                simp only [Act.put, List.getElem_toArray, List.getElem_cons_zero, List.getElem_cons_succ, List.setIfInBounds_toArray, List.set_cons_zero, List.set_cons_succ]
                refine wpAnyN_take (i := 7) (v := ?v10) rfl (by kernel_rfl) (by kernel_rfl) (by kernel_rfl) (by kernel_rfl) (fun _ _ _ h => h) (Or.inl ⟨by rfl, ?hy10⟩) (by assumption) ?_
                case hy10 => intro w hSw; (try dsimp only at hSw); go_simp; try with_reducible rfl
                simp only [Act.put, List.getElem_toArray, List.getElem_cons_zero, List.getElem_cons_succ, List.setIfInBounds_toArray, List.set_cons_zero, List.set_cons_succ]
                refine wpAnyN_take (i := 8) (v := ?v11) rfl (by kernel_rfl) (by kernel_rfl) (by kernel_rfl) (by kernel_rfl) (fun _ _ _ h => h) (Or.inl ⟨by rfl, ?hy11⟩) (by assumption) ?_
                case hy11 => intro w hSw; (try dsimp only at hSw); go_simp; try with_reducible rfl
                simp only [Act.put, List.getElem_toArray, List.getElem_cons_zero, List.getElem_cons_succ, List.setIfInBounds_toArray, List.set_cons_zero, List.set_cons_succ]
                (try simp only [Act.put, List.setIfInBounds_toArray, List.set_cons_zero, List.set_cons_succ])
                replace hP := hP.next hb2
                refine wpAnyN_one (i := 10) (by kernel_rfl) rfl (fun K hK => ?_)
                simp only [List.getElem_toArray, List.getElem_cons_zero, List.getElem_cons_succ]
                go_simp
                obtain ⟨X3, HX⟩ : ∃ X, Hid (X = X2.alloc (.cells #[.int .i64 0, .string ⟨#[]⟩, .bool false, .int .i64 0] 61)) := ⟨_, rfl⟩
                have hb3 : Below X2.heap.size X2 X3 := by rw [HX.out]; exact bAlloc _ _
                have hz3 : X2.heap.size < X3.heap.size := by rw [HX.out]; simp
                have hQ : Blk X3 X2.heap.size 61 #[.int .i64 0, .string ⟨#[]⟩, .bool false, .int .i64 0] := by rw [HX.out]; exact Blk.new _ _ _
                rw [← HX.out]
                clear HX
                have hS3 := bNext hS2 hb3
                refine hK _ _ (fun _ => hS3) ?_
                (try simp only [Act.put, List.setIfInBounds_toArray, List.set_cons_zero, List.set_cons_succ])
                replace hP := hP.next hb3
                have hy1 := hb1.size
                have hy2 := hb2.size
                have hy3 := hb3.size
                have hpq : X0.heap.size ≠ X2.heap.size := by omega
                have hy0 := hS0.size
                have f0 := hP.frozen 0; have f1 := hP.frozen 1; have f2 := hP.frozen 2; have f3 := hP.frozen 3; have f4 := hP.frozen 4
                have g0 := hP.cell 0; have g1 := hP.cell 1; have g2 := hP.cell 2; have g3 := hP.cell 3; have g4 := hP.cell 4
                have gl := hP.lt
                simp at g0 g1 g2 g3 g4
                refine wpAnyN_one (i := 11) (by kernel_rfl) rfl (fun K hK => ?_)
                simp only [List.getElem_toArray, List.getElem_cons_zero, List.getElem_cons_succ]
                go_simp
                obtain ⟨hW, hU⟩ := put5 (a0 := .slice C0 u.files.length c0) (a1 := .slice C1 u.opn.length c1) (a2 := .int .i64 u.inp) (a3 := .int .i64 u.out) (a4 := .int .i64 u.nxt) hP
                obtain ⟨X4, HX⟩ : ∃ X, Hid (X = (((((X3.setCell ⟨X0.heap.size, 0, none⟩ (.slice C0 u.files.length c0)).setCell ⟨X0.heap.size, 1, none⟩ (.slice C1 u.opn.length c1)).setCell ⟨X0.heap.size, 2, none⟩ (.int .i64 u.inp)).setCell ⟨X0.heap.size, 3, none⟩ (.int .i64 u.out)).setCell ⟨X0.heap.size, 4, none⟩ (.int .i64 u.nxt))) := ⟨_, rfl⟩
                rw [← HX.out] at hW hU ⊢
                clear HX f0 f1 f2 f3 f4 g0 g1 g2 g3 g4
                have hS4 := hU.below hS3 (by omega)
                refine hK _ _ (fun _ => hS4) ?_
                (try simp only [Act.put, List.setIfInBounds_toArray, List.set_cons_zero, List.set_cons_succ])
                replace hQ := hU.blk hQ (Ne.symm hpq)
                have f0 := hQ.frozen 0; have f1 := hQ.frozen 1; have f2 := hQ.frozen 2; have f3 := hQ.frozen 3
                have g0 := hQ.cell 0; have g1 := hQ.cell 1; have g2 := hQ.cell 2; have g3 := hQ.cell 3
                have gm := hQ.lt
                simp at g0 g1 g2 g3
                refine wpAnyN_one (i := 12) (by kernel_rfl) rfl (fun K hK => ?_)
                simp only [List.getElem_toArray, List.getElem_cons_zero, List.getElem_cons_succ]
                go_simp
                obtain ⟨hT, hU2⟩ := put4 (a0 := .int .i64 t.n) (a1 := .string t.text) (a2 := .bool t.is) (a3 := .int .i64 t.e) hQ
                obtain ⟨X5, HX⟩ : ∃ X, Hid (X = ((((X4.setCell ⟨X2.heap.size, 0, none⟩ (.int .i64 t.n)).setCell ⟨X2.heap.size, 1, none⟩ (.string t.text)).setCell ⟨X2.heap.size, 2, none⟩ (.bool t.is)).setCell ⟨X2.heap.size, 3, none⟩ (.int .i64 t.e))) := ⟨_, rfl⟩
                rw [← HX.out] at hT hU2 ⊢
                clear HX f0 f1 f2 f3 g0 g1 g2 g3
                have hS5 := hU2.below hS4 (by omega)
                refine hK _ _ (fun _ => hS5) ?_
                (try simp only [Act.put, List.setIfInBounds_toArray, List.set_cons_zero, List.set_cons_succ])
                refine wpAnyN_done (by kernel_rfl) ?_ _
                go_wp2_with fail
                go_meet
                exact ⟨_, _, rfl, rfl, Lib.hid (drawn_mk (p := X0.heap.size) (q := X2.heap.size) (wX := X1) (w1 := X2) (wY := X3) (w2 := X4) hl5 hl7 HA5.out hS1 hf hb2 (bNext (Below.refl _ _) hb3) (by omega) (by omega) hpq hU hW hU2 hT)⟩
              · simp only [List.getElem_toArray, List.getElem_cons_zero, List.getElem_cons_succ]
                go_simp
                obtain ⟨X2, HX⟩ : ∃ X, Hid (X = X1.alloc (.cells #[.int .i64 0, .string ⟨#[]⟩, .bool false, .int .i64 0] 61)) := ⟨_, rfl⟩
                have hb2 : Below X1.heap.size X1 X2 := by rw [HX.out]; exact bAlloc _ _
                have hz2 : X1.heap.size < X2.heap.size := by rw [HX.out]; simp
                have hQ : Blk X2 X1.heap.size 61 #[.int .i64 0, .string ⟨#[]⟩, .bool false, .int .i64 0] := by rw [HX.out]; exact Blk.new _ _ _
                rw [← HX.out]
                clear HX
                have hS2 := bNext hS1 hb2
                refine hK _ _ (fun _ => hS2) ?_
                (try simp only [Act.put, List.setIfInBounds_toArray, List.set_cons_zero, List.set_cons_succ])
                replace hP := hP.next hb2
                refine wpAnyN_one (i := 5) (by kernel_rfl) rfl (fun K hK => ?_)
                simp only [List.getElem_toArray, List.getElem_cons_zero, List.getElem_cons_succ]
                go_simp
                refine (HACT.out _ _ (HA5.out.at.next hS2)).mono ?_
                rintro e X3 ⟨⟨v', rfl, hf⟩, hb3⟩
                have hm := RetA.at' hf (HA5.out.at.next hS2) hb3
                obtain ⟨C0, c0, C1, c1, hv, -, -, -⟩ := hm
                obtain rfl : v' = .agg #[.slice C0 u.files.length c0, .slice C1 u.opn.length c1, .int .i64 u.inp, .int .i64 u.out, .int .i64 u.nxt] := hv
                dsimp only [T.v]
                have hS3 := bNext hS2 hb3
                refine hK _ _ (fun _ => hS3) ?_
                refine wpAnyN_take (i := 6) (v := ?v12) rfl (by kernel_rfl) (by kernel_rfl) (by kernel_rfl) (by kernel_rfl) (fun _ _ _ h => h) (Or.inl ⟨by rfl, ?hy12⟩) (by assumption) ?_
                case hy12 => intro w hSw; (try dsimp only at hSw); go_simp; try with_reducible rfl
                simp only [Act.put, List.getElem_toArray, List.getElem_cons_zero, List.getElem_cons_succ, List.setIfInBounds_toArray, List.set_cons_zero, List.set_cons_succ]
                refine wpAnyN_take (i := 7) (v := ?v13) rfl (by kernel_rfl) (by kernel_rfl) (by kernel_rfl) (by kernel_rfl) (fun _ _ _ h => h) (Or.inl ⟨by rfl, ?hy13⟩) (by assumption) ?_
                case hy13 => intro w hSw; (try dsimp only at hSw); go_simp; try with_reducible rfl
                simp only [Act.put, List.getElem_toArray, List.getElem_cons_zero, List.getElem_cons_succ, List.setIfInBounds_toArray, List.set_cons_zero, List.set_cons_succ]
                refine wpAnyN_take (i := 8) (v := ?v14) rfl (by kernel_rfl) (by kernel_rfl) (by kernel_rfl) (by kernel_rfl) (fun _ _ _ h => h) (Or.inl ⟨by rfl, ?hy14⟩) (by assumption) ?_
                case hy14 => intro w hSw; (try dsimp only at hSw); go_simp; try with_reducible rfl
                simp only [Act.put, List.getElem_toArray, List.getElem_cons_zero, List.getElem_cons_succ, List.setIfInBounds_toArray, List.set_cons_zero, List.set_cons_succ]
                (try simp only [Act.put, List.setIfInBounds_toArray, List.set_cons_zero, List.set_cons_succ])
                replace hP := hP.next hb3
                replace hQ := hQ.next hb3
                have hy1 := hb1.size
                have hy2 := hb2.size
                have hy3 := hb3.size
                have hpq : X0.heap.size ≠ X1.heap.size := by omega
                have hy0 := hS0.size
                have f0 := hP.frozen 0; have f1 := hP.frozen 1; have f2 := hP.frozen 2; have f3 := hP.frozen 3; have f4 := hP.frozen 4
                have g0 := hP.cell 0; have g1 := hP.cell 1; have g2 := hP.cell 2; have g3 := hP.cell 3; have g4 := hP.cell 4
                have gl := hP.lt
                simp at g0 g1 g2 g3 g4
                refine wpAnyN_one (i := 11) (by kernel_rfl) rfl (fun K hK => ?_)
                simp only [List.getElem_toArray, List.getElem_cons_zero, List.getElem_cons_succ]
                go_simp
                obtain ⟨hW, hU⟩ := put5 (a0 := .slice C0 u.files.length c0) (a1 := .slice C1 u.opn.length c1) (a2 := .int .i64 u.inp) (a3 := .int .i64 u.out) (a4 := .int .i64 u.nxt) hP
                obtain ⟨X4, HX⟩ : ∃ X, Hid (X = (((((X3.setCell ⟨X0.heap.size, 0, none⟩ (.slice C0 u.files.length c0)).setCell ⟨X0.heap.size, 1, none⟩ (.slice C1 u.opn.length c1)).setCell ⟨X0.heap.size, 2, none⟩ (.int .i64 u.inp)).setCell ⟨X0.heap.size, 3, none⟩ (.int .i64 u.out)).setCell ⟨X0.heap.size, 4, none⟩ (.int .i64 u.nxt))) := ⟨_, rfl⟩
                rw [← HX.out] at hW hU ⊢
                clear HX f0 f1 f2 f3 f4 g0 g1 g2 g3 g4
                have hS4 := hU.below hS3 (by omega)
                refine hK _ _ (fun _ => hS4) ?_
                (try simp only [Act.put, List.setIfInBounds_toArray, List.set_cons_zero, List.set_cons_succ])
                replace hQ := hU.blk hQ (Ne.symm hpq)
                have f0 := hQ.frozen 0; have f1 := hQ.frozen 1; have f2 := hQ.frozen 2; have f3 := hQ.frozen 3
                have g0 := hQ.cell 0; have g1 := hQ.cell 1; have g2 := hQ.cell 2; have g3 := hQ.cell 3
                have gm := hQ.lt
                simp at g0 g1 g2 g3
                refine wpAnyN_one (i := 12) (by kernel_rfl) rfl (fun K hK => ?_)
                simp only [List.getElem_toArray, List.getElem_cons_zero, List.getElem_cons_succ]
                go_simp
                obtain ⟨hT, hU2⟩ := put4 (a0 := .int .i64 t.n) (a1 := .string t.text) (a2 := .bool t.is) (a3 := .int .i64 t.e) hQ
                obtain ⟨X5, HX⟩ : ∃ X, Hid (X = ((((X4.setCell ⟨X1.heap.size, 0, none⟩ (.int .i64 t.n)).setCell ⟨X1.heap.size, 1, none⟩ (.string t.text)).setCell ⟨X1.heap.size, 2, none⟩ (.bool t.is)).setCell ⟨X1.heap.size, 3, none⟩ (.int .i64 t.e))) := ⟨_, rfl⟩
                rw [← HX.out] at hT hU2 ⊢
                clear HX f0 f1 f2 f3 g0 g1 g2 g3
                have hS5 := hU2.below hS4 (by omega)
                refine hK _ _ (fun _ => hS5) ?_
                (try simp only [Act.put, List.setIfInBounds_toArray, List.set_cons_zero, List.set_cons_succ])
                refine wpAnyN_done (by kernel_rfl) ?_ _
                go_wp2_with fail
                go_meet
                exact ⟨_, _, rfl, rfl, Lib.hid (drawn_mk (p := X0.heap.size) (q := X1.heap.size) (wX := X2) (w1 := X3) (wY := X3) (w2 := X4) hl5 hl7 HA5.out hS2 hf hb3 (Below.refl _ _) (by omega) (by omega) hpq hU hW hU2 hT)⟩
            · simp only [List.getElem_toArray, List.getElem_cons_zero, List.getElem_cons_succ]
              go_simp
              obtain ⟨X1, HX⟩ : ∃ X, Hid (X = X0.alloc (.cells #[.int .i64 0, .string ⟨#[]⟩, .bool false, .int .i64 0] 61)) := ⟨_, rfl⟩
              have hb1 : Below X0.heap.size X0 X1 := by rw [HX.out]; exact bAlloc _ _
              have hz1 : X0.heap.size < X1.heap.size := by rw [HX.out]; simp
              have hQ : Blk X1 X0.heap.size 61 #[.int .i64 0, .string ⟨#[]⟩, .bool false, .int .i64 0] := by rw [HX.out]; exact Blk.new _ _ _
              rw [← HX.out]
              clear HX
              have hS1 := bNext hS0 hb1
              refine hK _ _ (fun _ => hS1) ?_
              (try simp only [Act.put, List.setIfInBounds_toArray, List.set_cons_zero, List.set_cons_succ])
              refine wpAnyN_two (i := 5) (j := 9) (by kernel_rfl) rfl rfl (fun K hK => ?_) (fun K hK => ?_)
              · simp only [List.getElem_toArray, List.getElem_cons_zero, List.getElem_cons_succ]
                go_simp
                refine (HACT.out _ _ (HA5.out.at.next hS1)).mono ?_
                rintro e X2 ⟨⟨v', rfl, hf⟩, hb2⟩
                have hm := RetA.at' hf (HA5.out.at.next hS1) hb2
                obtain ⟨C0, c0, C1, c1, hv, -, -, -⟩ := hm
                obtain rfl : v' = .agg #[.slice C0 u.files.length c0, .slice C1 u.opn.length c1, .int .i64 u.inp, .int .i64 u.out, .int .i64 u.nxt] := hv
                dsimp only [T.v]
                have hS2 := bNext hS1 hb2
                refine hK _ _ (fun _ => hS2) ?_
                refine wpAnyN_take (i := 6) (v := ?v15) rfl (by kernel_rfl) (by kernel_rfl) (by kernel_rfl) (by kernel_rfl) (fun _ _ _ h => h) (Or.inl ⟨by rfl, ?hy15⟩) (by assumption) ?_
                case hy15 => intro w hSw; (try dsimp only at hSw); go_simp; try with_reducible rfl
                simp only [Act.put, List.getElem_toArray, List.getElem_cons_zero, List.getElem_cons_succ, List.setIfInBounds_toArray, List.set_cons_zero, List.set_cons_succ]
                refine wpAnyN_take (i := 7) (v := ?v16) rfl (by kernel_rfl) (by kernel_rfl) (by kernel_rfl) (by kernel_rfl) (fun _ _ _ h => h) (Or.inl ⟨by rfl, ?hy16⟩) (by assumption) ?_
                case hy16 => intro w hSw; (try dsimp only at hSw); go_simp; try with_reducible rfl
                simp only [Act.put, List.getElem_toArray, List.getElem_cons_zero, List.getElem_cons_succ, List.setIfInBounds_toArray, List.set_cons_zero, List.set_cons_succ]
                refine wpAnyN_take (i := 8) (v := ?v17) rfl (by kernel_rfl) (by kernel_rfl) (by kernel_rfl) (by kernel_rfl) (fun _ _ _ h => h) (Or.inl ⟨by rfl, ?hy17⟩) (by assumption) ?_
                case hy17 => intro w hSw; (try dsimp only at hSw); go_simp; try with_reducible rfl
                simp only [Act.put, List.getElem_toArray, List.getElem_cons_zero, List.getElem_cons_succ, List.setIfInBounds_toArray, List.set_cons_zero, List.set_cons_succ]
                (try simp only [Act.put, List.setIfInBounds_toArray, List.set_cons_zero, List.set_cons_succ])
                replace hQ := hQ.next hb2
                refine wpAnyN_one (i := 9) (by kernel_rfl) rfl (fun K hK => ?_)
                simp only [List.getElem_toArray, List.getElem_cons_zero, List.getElem_cons_succ]
                go_simp
                obtain ⟨X3, HX⟩ : ∃ X, Hid (X = X2.alloc (.cells #[.slice none 0 0, .slice none 0 0, .int .i64 0, .int .i64 0, .int .i64 0] 25)) := ⟨_, rfl⟩
                have hb3 : Below X2.heap.size X2 X3 := by rw [HX.out]; exact bAlloc _ _
                have hz3 : X2.heap.size < X3.heap.size := by rw [HX.out]; simp
                have hP : Blk X3 X2.heap.size 25 #[.slice none 0 0, .slice none 0 0, .int .i64 0, .int .i64 0, .int .i64 0] := by rw [HX.out]; exact Blk.new _ _ _
                rw [← HX.out]
                clear HX
                have hS3 := bNext hS2 hb3
                refine hK _ _ (fun _ => hS3) ?_
                (try simp only [Act.put, List.setIfInBounds_toArray, List.set_cons_zero, List.set_cons_succ])
                replace hQ := hQ.next hb3
                have hy1 := hb1.size
                have hy2 := hb2.size
                have hy3 := hb3.size
                have hpq : X2.heap.size ≠ X0.heap.size := by omega
                have hy0 := hS0.size
                have f0 := hP.frozen 0; have f1 := hP.frozen 1; have f2 := hP.frozen 2; have f3 := hP.frozen 3; have f4 := hP.frozen 4
                have g0 := hP.cell 0; have g1 := hP.cell 1; have g2 := hP.cell 2; have g3 := hP.cell 3; have g4 := hP.cell 4
                have gl := hP.lt
                simp at g0 g1 g2 g3 g4
                refine wpAnyN_one (i := 11) (by kernel_rfl) rfl (fun K hK => ?_)
                simp only [List.getElem_toArray, List.getElem_cons_zero, List.getElem_cons_succ]
                go_simp
                obtain ⟨hW, hU⟩ := put5 (a0 := .slice C0 u.files.length c0) (a1 := .slice C1 u.opn.length c1) (a2 := .int .i64 u.inp) (a3 := .int .i64 u.out) (a4 := .int .i64 u.nxt) hP
                obtain ⟨X4, HX⟩ : ∃ X, Hid (X = (((((X3.setCell ⟨X2.heap.size, 0, none⟩ (.slice C0 u.files.length c0)).setCell ⟨X2.heap.size, 1, none⟩ (.slice C1 u.opn.length c1)).setCell ⟨X2.heap.size, 2, none⟩ (.int .i64 u.inp)).setCell ⟨X2.heap.size, 3, none⟩ (.int .i64 u.out)).setCell ⟨X2.heap.size, 4, none⟩ (.int .i64 u.nxt))) := ⟨_, rfl⟩
                rw [← HX.out] at hW hU ⊢
                clear HX f0 f1 f2 f3 f4 g0 g1 g2 g3 g4
                have hS4 := hU.below hS3 (by omega)
                refine hK _ _ (fun _ => hS4) ?_
                (try simp only [Act.put, List.setIfInBounds_toArray, List.set_cons_zero, List.set_cons_succ])
                replace hQ := hU.blk hQ (Ne.symm hpq)
                have f0 := hQ.frozen 0; have f1 := hQ.frozen 1; have f2 := hQ.frozen 2; have f3 := hQ.frozen 3
                have g0 := hQ.cell 0; have g1 := hQ.cell 1; have g2 := hQ.cell 2; have g3 := hQ.cell 3
                have gm := hQ.lt
                simp at g0 g1 g2 g3
                refine wpAnyN_one (i := 12) (by kernel_rfl) rfl (fun K hK => ?_)
                simp only [List.getElem_toArray, List.getElem_cons_zero, List.getElem_cons_succ]
                go_simp
                obtain ⟨hT, hU2⟩ := put4 (a0 := .int .i64 t.n) (a1 := .string t.text) (a2 := .bool t.is) (a3 := .int .i64 t.e) hQ
                obtain ⟨X5, HX⟩ : ∃ X, Hid (X = ((((X4.setCell ⟨X0.heap.size, 0, none⟩ (.int .i64 t.n)).setCell ⟨X0.heap.size, 1, none⟩ (.string t.text)).setCell ⟨X0.heap.size, 2, none⟩ (.bool t.is)).setCell ⟨X0.heap.size, 3, none⟩ (.int .i64 t.e))) := ⟨_, rfl⟩
                rw [← HX.out] at hT hU2 ⊢
                clear HX f0 f1 f2 f3 g0 g1 g2 g3
                have hS5 := hU2.below hS4 (by omega)
                refine hK _ _ (fun _ => hS5) ?_
                (try simp only [Act.put, List.setIfInBounds_toArray, List.set_cons_zero, List.set_cons_succ])
                refine wpAnyN_done (by kernel_rfl) ?_ _
                go_wp2_with fail
                go_meet
                exact ⟨_, _, rfl, rfl, Lib.hid (drawn_mk (p := X2.heap.size) (q := X0.heap.size) (wX := X1) (w1 := X2) (wY := X3) (w2 := X4) hl5 hl7 HA5.out hS1 hf hb2 (bNext (Below.refl _ _) hb3) (by omega) (by omega) hpq hU hW hU2 hT)⟩
              · simp only [List.getElem_toArray, List.getElem_cons_zero, List.getElem_cons_succ]
                go_simp
                obtain ⟨X2, HX⟩ : ∃ X, Hid (X = X1.alloc (.cells #[.slice none 0 0, .slice none 0 0, .int .i64 0, .int .i64 0, .int .i64 0] 25)) := ⟨_, rfl⟩
                have hb2 : Below X1.heap.size X1 X2 := by rw [HX.out]; exact bAlloc _ _
                have hz2 : X1.heap.size < X2.heap.size := by rw [HX.out]; simp
                have hP : Blk X2 X1.heap.size 25 #[.slice none 0 0, .slice none 0 0, .int .i64 0, .int .i64 0, .int .i64 0] := by rw [HX.out]; exact Blk.new _ _ _
                rw [← HX.out]
                clear HX
                have hS2 := bNext hS1 hb2
                refine hK _ _ (fun _ => hS2) ?_
                (try simp only [Act.put, List.setIfInBounds_toArray, List.set_cons_zero, List.set_cons_succ])
                replace hQ := hQ.next hb2
                refine wpAnyN_one (i := 5) (by kernel_rfl) rfl (fun K hK => ?_)
                simp only [List.getElem_toArray, List.getElem_cons_zero, List.getElem_cons_succ]
                go_simp
                refine (HACT.out _ _ (HA5.out.at.next hS2)).mono ?_
                rintro e X3 ⟨⟨v', rfl, hf⟩, hb3⟩
                have hm := RetA.at' hf (HA5.out.at.next hS2) hb3
                obtain ⟨C0, c0, C1, c1, hv, -, -, -⟩ := hm
                obtain rfl : v' = .agg #[.slice C0 u.files.length c0, .slice C1 u.opn.length c1, .int .i64 u.inp, .int .i64 u.out, .int .i64 u.nxt] := hv
                dsimp only [T.v]
                have hS3 := bNext hS2 hb3
                refine hK _ _ (fun _ => hS3) ?_
                refine wpAnyN_take (i := 6) (v := ?v18) rfl (by kernel_rfl) (by kernel_rfl) (by kernel_rfl) (by kernel_rfl) (fun _ _ _ h => h) (Or.inl ⟨by rfl, ?hy18⟩) (by assumption) ?_
                case hy18 => intro w hSw; (try dsimp only at hSw); go_simp; try with_reducible rfl
                simp only [Act.put, List.getElem_toArray, List.getElem_cons_zero, List.getElem_cons_succ, List.setIfInBounds_toArray, List.set_cons_zero, List.set_cons_succ]
                refine wpAnyN_take (i := 7) (v := ?v19) rfl (by kernel_rfl) (by kernel_rfl) (by kernel_rfl) (by kernel_rfl) (fun _ _ _ h => h) (Or.inl ⟨by rfl, ?hy19⟩) (by assumption) ?_
                case hy19 => intro w hSw; (try dsimp only at hSw); go_simp; try with_reducible rfl
                simp only [Act.put, List.getElem_toArray, List.getElem_cons_zero, List.getElem_cons_succ, List.setIfInBounds_toArray, List.set_cons_zero, List.set_cons_succ]
                refine wpAnyN_take (i := 8) (v := ?v20) rfl (by kernel_rfl) (by kernel_rfl) (by kernel_rfl) (by kernel_rfl) (fun _ _ _ h => h) (Or.inl ⟨by rfl, ?hy20⟩) (by assumption) ?_
                case hy20 => intro w hSw; (try dsimp only at hSw); go_simp; try with_reducible rfl
                simp only [Act.put, List.getElem_toArray, List.getElem_cons_zero, List.getElem_cons_succ, List.setIfInBounds_toArray, List.set_cons_zero, List.set_cons_succ]
                (try simp only [Act.put, List.setIfInBounds_toArray, List.set_cons_zero, List.set_cons_succ])
                replace hQ := hQ.next hb3
                replace hP := hP.next hb3
                have hy1 := hb1.size
                have hy2 := hb2.size
                have hy3 := hb3.size
                have hpq : X1.heap.size ≠ X0.heap.size := by omega
                have hy0 := hS0.size
                have f0 := hP.frozen 0; have f1 := hP.frozen 1; have f2 := hP.frozen 2; have f3 := hP.frozen 3; have f4 := hP.frozen 4
                have g0 := hP.cell 0; have g1 := hP.cell 1; have g2 := hP.cell 2; have g3 := hP.cell 3; have g4 := hP.cell 4
                have gl := hP.lt
                simp at g0 g1 g2 g3 g4
                refine wpAnyN_one (i := 11) (by kernel_rfl) rfl (fun K hK => ?_)
                simp only [List.getElem_toArray, List.getElem_cons_zero, List.getElem_cons_succ]
                go_simp
                obtain ⟨hW, hU⟩ := put5 (a0 := .slice C0 u.files.length c0) (a1 := .slice C1 u.opn.length c1) (a2 := .int .i64 u.inp) (a3 := .int .i64 u.out) (a4 := .int .i64 u.nxt) hP
                obtain ⟨X4, HX⟩ : ∃ X, Hid (X = (((((X3.setCell ⟨X1.heap.size, 0, none⟩ (.slice C0 u.files.length c0)).setCell ⟨X1.heap.size, 1, none⟩ (.slice C1 u.opn.length c1)).setCell ⟨X1.heap.size, 2, none⟩ (.int .i64 u.inp)).setCell ⟨X1.heap.size, 3, none⟩ (.int .i64 u.out)).setCell ⟨X1.heap.size, 4, none⟩ (.int .i64 u.nxt))) := ⟨_, rfl⟩
                rw [← HX.out] at hW hU ⊢
                clear HX f0 f1 f2 f3 f4 g0 g1 g2 g3 g4
                have hS4 := hU.below hS3 (by omega)
                refine hK _ _ (fun _ => hS4) ?_
                (try simp only [Act.put, List.setIfInBounds_toArray, List.set_cons_zero, List.set_cons_succ])
                replace hQ := hU.blk hQ (Ne.symm hpq)
                have f0 := hQ.frozen 0; have f1 := hQ.frozen 1; have f2 := hQ.frozen 2; have f3 := hQ.frozen 3
                have g0 := hQ.cell 0; have g1 := hQ.cell 1; have g2 := hQ.cell 2; have g3 := hQ.cell 3
                have gm := hQ.lt
                simp at g0 g1 g2 g3
                refine wpAnyN_one (i := 12) (by kernel_rfl) rfl (fun K hK => ?_)
                simp only [List.getElem_toArray, List.getElem_cons_zero, List.getElem_cons_succ]
                go_simp
                obtain ⟨hT, hU2⟩ := put4 (a0 := .int .i64 t.n) (a1 := .string t.text) (a2 := .bool t.is) (a3 := .int .i64 t.e) hQ
                obtain ⟨X5, HX⟩ : ∃ X, Hid (X = ((((X4.setCell ⟨X0.heap.size, 0, none⟩ (.int .i64 t.n)).setCell ⟨X0.heap.size, 1, none⟩ (.string t.text)).setCell ⟨X0.heap.size, 2, none⟩ (.bool t.is)).setCell ⟨X0.heap.size, 3, none⟩ (.int .i64 t.e))) := ⟨_, rfl⟩
                rw [← HX.out] at hT hU2 ⊢
                clear HX f0 f1 f2 f3 g0 g1 g2 g3
                have hS5 := hU2.below hS4 (by omega)
                refine hK _ _ (fun _ => hS5) ?_
                (try simp only [Act.put, List.setIfInBounds_toArray, List.set_cons_zero, List.set_cons_succ])
                refine wpAnyN_done (by kernel_rfl) ?_ _
                go_wp2_with fail
                go_meet
                exact ⟨_, _, rfl, rfl, Lib.hid (drawn_mk (p := X1.heap.size) (q := X0.heap.size) (wX := X2) (w1 := X3) (wY := X3) (w2 := X4) hl5 hl7 HA5.out hS2 hf hb3 (Below.refl _ _) (by omega) (by omega) hpq hU hW hU2 hT)⟩
          case rest =>
            obtain ⟨p1, r1, rfl, rfl, HD⟩ := hcut
            obtain ⟨F0, f0, F1, f1, ⟨hp1, hr1, hpr1⟩, kp1, kr1, hAF, hbc⟩ := HD.out
            have hl5' := kp1.lt
            have hl6' := kr1.lt
            have hzc := hbc.size
            have h7 := H7.out.next hbc
            have hA7 := HA7.out.next hbc
            have HBc := Lib.hid (bNext HB.out hbc)
            have H5c := Lib.hid (H5.out.next hbc)
            have HA5c := Lib.hid (HA5.out.next hbc)
            have hl5c : a5 < wc.heap.size := by omega
            have hl7c : a7 < wc.heap.size := by omega
            have habc : ab < wc.heap.size := by omega
            have y0 := (hbc.cell (p := ⟨ab, _, none⟩) hab').trans x0
            have y1 := (hbc.cell (p := ⟨ab, _, none⟩) hab').trans x1
            have y2 := (hbc.cell (p := ⟨ab, _, none⟩) hab').trans x2
            have y3 := (hbc.cell (p := ⟨ab, _, none⟩) hab').trans x3
            have y4 := (hbc.cell (p := ⟨ab, _, none⟩) hab').trans x4
            have y5 := (hbc.cell (p := ⟨ab, _, none⟩) hab').trans x5
            clear h5 HD x0 x1 x2 x3 x4 x5 HB
            go_upto_region 9 with fail
            go_cut [12, 13] from 50 to 58 (fun s12 s13 wx => ∃ p q, s12 = .pointer (some ⟨p, 0, none⟩) ∧ s13 = .pointer (some ⟨q, 0, none⟩) ∧ Hid (DrawnA a5 a7 wc wx p q u t))
            case first =>
              refine wp_region_N (fun w' => Below wc.heap.size wc w') (fun _ => true) (by kernel_rfl) ?_
              have hS0 : (fun w' => Below wc.heap.size wc w') wc.drew := bDrewN (Below.refl _ _) 1
              obtain ⟨X0, HX0⟩ : ∃ X, Hid (X = wc.drew) := ⟨_, rfl⟩
              rw [← HX0.out] at hS0 ⊢
              have hS0 : Below wc.heap.size wc X0 := hS0
              clear HX0
              refine wpAnyN_take (i := 0) (v := ?v21) rfl (by kernel_rfl) (by kernel_rfl) (by kernel_rfl) (by kernel_rfl) (fun _ _ _ h => h) (Or.inl ⟨by rfl, ?hy21⟩) (by assumption) ?_
              case hy21 => intro w hSw; have e := h7.below hSw h7.lt; have e0 := e.cell 0; have e1 := e.cell 1; have e2 := e.cell 2; have e3 := e.cell 3; have e4 := e.cell 4; simp at e0 e1 e2 e3 e4; go_simp; try with_reducible rfl
              simp only [Act.put, List.getElem_toArray, List.getElem_cons_zero, List.setIfInBounds_toArray, List.set_cons_zero, List.set_cons_succ]
              refine wpAnyN_take (i := 1) (v := ?v22) rfl (by kernel_rfl) (by kernel_rfl) (by kernel_rfl) (by kernel_rfl) (fun _ _ _ h => h) (Or.inl ⟨by rfl, ?hy22⟩) (by assumption) ?_
              case hy22 => intro w hSw; (try dsimp only at hSw); go_simp; try with_reducible rfl
              simp only [Act.put, List.getElem_toArray, List.getElem_cons_zero, List.getElem_cons_succ, List.setIfInBounds_toArray, List.set_cons_zero, List.set_cons_succ]
              refine wpAnyN_take (i := 2) (v := ?v23) rfl (by kernel_rfl) (by kernel_rfl) (by kernel_rfl) (by kernel_rfl) (fun _ _ _ h => h) (Or.inl ⟨by rfl, ?hy23⟩) (by assumption) ?_
              case hy23 => intro w hSw; (try dsimp only at hSw); go_simp; try with_reducible rfl
              simp only [Act.put, List.getElem_toArray, List.getElem_cons_zero, List.getElem_cons_succ, List.setIfInBounds_toArray, List.set_cons_zero, List.set_cons_succ]
              refine wpAnyN_take (i := 3) (v := ?v24) rfl (by kernel_rfl) (by kernel_rfl) (by kernel_rfl) (by kernel_rfl) (fun _ _ _ h => h) (Or.inl ⟨by rfl, ?hy24⟩) (by assumption) ?_
              case hy24 => intro w hSw; (try dsimp only at hSw); go_simp; try with_reducible rfl
              simp only [Act.put, List.getElem_toArray, List.getElem_cons_zero, List.getElem_cons_succ, List.setIfInBounds_toArray, List.set_cons_zero, List.set_cons_succ]
              refine wpAnyN_take (i := 4) (v := ?v25) rfl (by kernel_rfl) (by kernel_rfl) (by kernel_rfl) (by kernel_rfl) (fun _ _ _ h => h) (Or.inl ⟨by rfl, ?hy25⟩) (by assumption) ?_
              case hy25 => intro w hSw; have e0 := (hSw.cell (p := ⟨ab, _, none⟩) habc).trans y0; have e1 := (hSw.cell (p := ⟨ab, _, none⟩) habc).trans y1; have e2 := (hSw.cell (p := ⟨ab, _, none⟩) habc).trans y2; have e3 := (hSw.cell (p := ⟨ab, _, none⟩) habc).trans y3; have e4 := (hSw.cell (p := ⟨ab, _, none⟩) habc).trans y4; have e5 := (hSw.cell (p := ⟨ab, _, none⟩) habc).trans y5; go_simp; try with_reducible rfl
              simp only [Act.put, List.getElem_toArray, List.getElem_cons_zero, List.getElem_cons_succ, List.setIfInBounds_toArray, List.set_cons_zero, List.set_cons_succ]
              refine wpAnyN_three (i := 5) (j := 9) (k := 10) (by kernel_rfl) rfl rfl rfl (fun K hK => ?_) (fun K hK => ?_) (fun K hK => ?_)
              · simp only [List.getElem_toArray, List.getElem_cons_zero, List.getElem_cons_succ]
                go_simp
                refine (HWANT.out _ _ (hA7.at.next hS0)).mono ?_
                rintro e X1 ⟨⟨v', rfl, hf⟩, hb1⟩
                have hm := RetA.at' hf (hA7.at.next hS0) hb1
                obtain ⟨C0, c0, C1, c1, hv, -, -, -⟩ := hm
                obtain rfl : v' = .agg #[.slice C0 u.files.length c0, .slice C1 u.opn.length c1, .int .i64 u.inp, .int .i64 u.out, .int .i64 u.nxt] := hv
                dsimp only [T.v]
                have hS1 := bNext hS0 hb1
                refine hK _ _ (fun _ => hS1) ?_
                refine wpAnyN_take (i := 6) (v := ?v26) rfl (by kernel_rfl) (by kernel_rfl) (by kernel_rfl) (by kernel_rfl) (fun _ _ _ h => h) (Or.inl ⟨by rfl, ?hy26⟩) (by assumption) ?_
                case hy26 => intro w hSw; (try dsimp only at hSw); go_simp; try with_reducible rfl
                simp only [Act.put, List.getElem_toArray, List.getElem_cons_zero, List.getElem_cons_succ, List.setIfInBounds_toArray, List.set_cons_zero, List.set_cons_succ]
                refine wpAnyN_take (i := 7) (v := ?v27) rfl (by kernel_rfl) (by kernel_rfl) (by kernel_rfl) (by kernel_rfl) (fun _ _ _ h => h) (Or.inl ⟨by rfl, ?hy27⟩) (by assumption) ?_
                case hy27 => intro w hSw; (try dsimp only at hSw); go_simp; try with_reducible rfl
                simp only [Act.put, List.getElem_toArray, List.getElem_cons_zero, List.getElem_cons_succ, List.setIfInBounds_toArray, List.set_cons_zero, List.set_cons_succ]
                refine wpAnyN_take (i := 8) (v := ?v28) rfl (by kernel_rfl) (by kernel_rfl) (by kernel_rfl) (by kernel_rfl) (fun _ _ _ h => h) (Or.inl ⟨by rfl, ?hy28⟩) (by assumption) ?_
                case hy28 => intro w hSw; (try dsimp only at hSw); go_simp; try with_reducible rfl
                simp only [Act.put, List.getElem_toArray, List.getElem_cons_zero, List.getElem_cons_succ, List.setIfInBounds_toArray, List.set_cons_zero, List.set_cons_succ]
                (try simp only [Act.put, List.setIfInBounds_toArray, List.set_cons_zero, List.set_cons_succ])
                refine wpAnyN_two (i := 9) (j := 10) (by kernel_rfl) rfl rfl (fun K hK => ?_) (fun K hK => ?_)
                · simp only [List.getElem_toArray, List.getElem_cons_zero, List.getElem_cons_succ]
                  go_simp
                  obtain ⟨X2, HX⟩ : ∃ X, Hid (X = X1.alloc (.cells #[.slice none 0 0, .slice none 0 0, .int .i64 0, .int .i64 0, .int .i64 0] 25)) := ⟨_, rfl⟩
                  have hb2 : Below X1.heap.size X1 X2 := by rw [HX.out]; exact bAlloc _ _
                  have hz2 : X1.heap.size < X2.heap.size := by rw [HX.out]; simp
                  have hP : Blk X2 X1.heap.size 25 #[.slice none 0 0, .slice none 0 0, .int .i64 0, .int .i64 0, .int .i64 0] := by rw [HX.out]; exact Blk.new _ _ _
                  rw [← HX.out]
                  clear HX
                  have hS2 := bNext hS1 hb2
                  refine hK _ _ (fun _ => hS2) ?_
                  (try simp only [Act.put, List.setIfInBounds_toArray, List.set_cons_zero, List.set_cons_succ])
                  refine wpAnyN_one (i := 10) (by kernel_rfl) rfl (fun K hK => ?_)
                  simp only [List.getElem_toArray, List.getElem_cons_zero, List.getElem_cons_succ]
                  go_simp
                  obtain ⟨X3, HX⟩ : ∃ X, Hid (X = X2.alloc (.cells #[.int .i64 0, .string ⟨#[]⟩, .bool false, .int .i64 0] 61)) := ⟨_, rfl⟩
                  have hb3 : Below X2.heap.size X2 X3 := by rw [HX.out]; exact bAlloc _ _
                  have hz3 : X2.heap.size < X3.heap.size := by rw [HX.out]; simp
                  have hQ : Blk X3 X2.heap.size 61 #[.int .i64 0, .string ⟨#[]⟩, .bool false, .int .i64 0] := by rw [HX.out]; exact Blk.new _ _ _
                  rw [← HX.out]
                  clear HX
                  have hS3 := bNext hS2 hb3
                  refine hK _ _ (fun _ => hS3) ?_
                  (try simp only [Act.put, List.setIfInBounds_toArray, List.set_cons_zero, List.set_cons_succ])
                  replace hP := hP.next hb3
                  have hy1 := hb1.size
                  have hy2 := hb2.size
                  have hy3 := hb3.size
                  have hpq : X1.heap.size ≠ X2.heap.size := by omega
                  have hy0 := hS0.size
                  have f0 := hP.frozen 0; have f1 := hP.frozen 1; have f2 := hP.frozen 2; have f3 := hP.frozen 3; have f4 := hP.frozen 4
                  have g0 := hP.cell 0; have g1 := hP.cell 1; have g2 := hP.cell 2; have g3 := hP.cell 3; have g4 := hP.cell 4
                  have gl := hP.lt
                  simp at g0 g1 g2 g3 g4
                  refine wpAnyN_one (i := 11) (by kernel_rfl) rfl (fun K hK => ?_)
                  simp only [List.getElem_toArray, List.getElem_cons_zero, List.getElem_cons_succ]
                  go_simp
                  obtain ⟨hW, hU⟩ := put5 (a0 := .slice C0 u.files.length c0) (a1 := .slice C1 u.opn.length c1) (a2 := .int .i64 u.inp) (a3 := .int .i64 u.out) (a4 := .int .i64 u.nxt) hP
                  obtain ⟨X4, HX⟩ : ∃ X, Hid (X = (((((X3.setCell ⟨X1.heap.size, 0, none⟩ (.slice C0 u.files.length c0)).setCell ⟨X1.heap.size, 1, none⟩ (.slice C1 u.opn.length c1)).setCell ⟨X1.heap.size, 2, none⟩ (.int .i64 u.inp)).setCell ⟨X1.heap.size, 3, none⟩ (.int .i64 u.out)).setCell ⟨X1.heap.size, 4, none⟩ (.int .i64 u.nxt))) := ⟨_, rfl⟩
                  rw [← HX.out] at hW hU ⊢
                  clear HX f0 f1 f2 f3 f4 g0 g1 g2 g3 g4
                  have hS4 := hU.below hS3 (by omega)
                  refine hK _ _ (fun _ => hS4) ?_
                  (try simp only [Act.put, List.setIfInBounds_toArray, List.set_cons_zero, List.set_cons_succ])
                  replace hQ := hU.blk hQ (Ne.symm hpq)
                  have f0 := hQ.frozen 0; have f1 := hQ.frozen 1; have f2 := hQ.frozen 2; have f3 := hQ.frozen 3
                  have g0 := hQ.cell 0; have g1 := hQ.cell 1; have g2 := hQ.cell 2; have g3 := hQ.cell 3
                  have gm := hQ.lt
                  simp at g0 g1 g2 g3
                  refine wpAnyN_one (i := 12) (by kernel_rfl) rfl (fun K hK => ?_)
                  simp only [List.getElem_toArray, List.getElem_cons_zero, List.getElem_cons_succ]
                  go_simp
                  obtain ⟨hT, hU2⟩ := put4 (a0 := .int .i64 t.n) (a1 := .string t.text) (a2 := .bool t.is) (a3 := .int .i64 t.e) hQ
                  obtain ⟨X5, HX⟩ : ∃ X, Hid (X = ((((X4.setCell ⟨X2.heap.size, 0, none⟩ (.int .i64 t.n)).setCell ⟨X2.heap.size, 1, none⟩ (.string t.text)).setCell ⟨X2.heap.size, 2, none⟩ (.bool t.is)).setCell ⟨X2.heap.size, 3, none⟩ (.int .i64 t.e))) := ⟨_, rfl⟩
                  rw [← HX.out] at hT hU2 ⊢
                  clear HX f0 f1 f2 f3 g0 g1 g2 g3
                  have hS5 := hU2.below hS4 (by omega)
                  refine hK _ _ (fun _ => hS5) ?_
                  (try simp only [Act.put, List.setIfInBounds_toArray, List.set_cons_zero, List.set_cons_succ])
                  refine wpAnyN_done (by kernel_rfl) ?_ _
                  go_wp2_with fail
                  go_meet
                  exact ⟨_, _, rfl, rfl, Lib.hid (drawn_mk (p := X1.heap.size) (q := X2.heap.size) (wX := X0) (w1 := X1) (wY := X3) (w2 := X4) hl5c hl7c hA7 hS0 hf hb1 (bNext (bNext (Below.refl _ _) hb2) hb3) (by omega) (by omega) hpq hU hW hU2 hT)⟩
                · simp only [List.getElem_toArray, List.getElem_cons_zero, List.getElem_cons_succ]
                  go_simp
                  obtain ⟨X2, HX⟩ : ∃ X, Hid (X = X1.alloc (.cells #[.int .i64 0, .string ⟨#[]⟩, .bool false, .int .i64 0] 61)) := ⟨_, rfl⟩
                  have hb2 : Below X1.heap.size X1 X2 := by rw [HX.out]; exact bAlloc _ _
                  have hz2 : X1.heap.size < X2.heap.size := by rw [HX.out]; simp
                  have hQ : Blk X2 X1.heap.size 61 #[.int .i64 0, .string ⟨#[]⟩, .bool false, .int .i64 0] := by rw [HX.out]; exact Blk.new _ _ _
                  rw [← HX.out]
                  clear HX
                  have hS2 := bNext hS1 hb2
                  refine hK _ _ (fun _ => hS2) ?_
                  (try simp only [Act.put, List.setIfInBounds_toArray, List.set_cons_zero, List.set_cons_succ])
                  refine wpAnyN_one (i := 9) (by kernel_rfl) rfl (fun K hK => ?_)
                  simp only [List.getElem_toArray, List.getElem_cons_zero, List.getElem_cons_succ]
                  go_simp
                  obtain ⟨X3, HX⟩ : ∃ X, Hid (X = X2.alloc (.cells #[.slice none 0 0, .slice none 0 0, .int .i64 0, .int .i64 0, .int .i64 0] 25)) := ⟨_, rfl⟩
                  have hb3 : Below X2.heap.size X2 X3 := by rw [HX.out]; exact bAlloc _ _
                  have hz3 : X2.heap.size < X3.heap.size := by rw [HX.out]; simp
                  have hP : Blk X3 X2.heap.size 25 #[.slice none 0 0, .slice none 0 0, .int .i64 0, .int .i64 0, .int .i64 0] := by rw [HX.out]; exact Blk.new _ _ _
                  rw [← HX.out]
                  clear HX
                  have hS3 := bNext hS2 hb3
                  refine hK _ _ (fun _ => hS3) ?_
                  (try simp only [Act.put, List.setIfInBounds_toArray, List.set_cons_zero, List.set_cons_succ])
                  replace hQ := hQ.next hb3
                  have hy1 := hb1.size
                  have hy2 := hb2.size
                  have hy3 := hb3.size
                  have hpq : X2.heap.size ≠ X1.heap.size := by omega
                  have hy0 := hS0.size
                  have f0 := hP.frozen 0; have f1 := hP.frozen 1; have f2 := hP.frozen 2; have f3 := hP.frozen 3; have f4 := hP.frozen 4
                  have g0 := hP.cell 0; have g1 := hP.cell 1; have g2 := hP.cell 2; have g3 := hP.cell 3; have g4 := hP.cell 4
                  have gl := hP.lt
                  simp at g0 g1 g2 g3 g4
                  refine wpAnyN_one (i := 11) (by kernel_rfl) rfl (fun K hK => ?_)
                  simp only [List.getElem_toArray, List.getElem_cons_zero, List.getElem_cons_succ]
                  go_simp
                  obtain ⟨hW, hU⟩ := put5 (a0 := .slice C0 u.files.length c0) (a1 := .slice C1 u.opn.length c1) (a2 := .int .i64 u.inp) (a3 := .int .i64 u.out) (a4 := .int .i64 u.nxt) hP
                  obtain ⟨X4, HX⟩ : ∃ X, Hid (X = (((((X3.setCell ⟨X2.heap.size, 0, none⟩ (.slice C0 u.files.length c0)).setCell ⟨X2.heap.size, 1, none⟩ (.slice C1 u.opn.length c1)).setCell ⟨X2.heap.size, 2, none⟩ (.int .i64 u.inp)).setCell ⟨X2.heap.size, 3, none⟩ (.int .i64 u.out)).setCell ⟨X2.heap.size, 4, none⟩ (.int .i64 u.nxt))) := ⟨_, rfl⟩
                  rw [← HX.out] at hW hU ⊢
                  clear HX f0 f1 f2 f3 f4 g0 g1 g2 g3 g4
                  have hS4 := hU.below hS3 (by omega)
                  refine hK _ _ (fun _ => hS4) ?_
                  (try simp only [Act.put, List.setIfInBounds_toArray, List.set_cons_zero, List.set_cons_succ])
                  replace hQ := hU.blk hQ (Ne.symm hpq)
                  have f0 := hQ.frozen 0; have f1 := hQ.frozen 1; have f2 := hQ.frozen 2; have f3 := hQ.frozen 3
                  have g0 := hQ.cell 0; have g1 := hQ.cell 1; have g2 := hQ.cell 2; have g3 := hQ.cell 3
                  have gm := hQ.lt
                  simp at g0 g1 g2 g3
                  refine wpAnyN_one (i := 12) (by kernel_rfl) rfl (fun K hK => ?_)
                  simp only [List.getElem_toArray, List.getElem_cons_zero, List.getElem_cons_succ]
                  go_simp
                  obtain ⟨hT, hU2⟩ := put4 (a0 := .int .i64 t.n) (a1 := .string t.text) (a2 := .bool t.is) (a3 := .int .i64 t.e) hQ
                  obtain ⟨X5, HX⟩ : ∃ X, Hid (X = ((((X4.setCell ⟨X1.heap.size, 0, none⟩ (.int .i64 t.n)).setCell ⟨X1.heap.size, 1, none⟩ (.string t.text)).setCell ⟨X1.heap.size, 2, none⟩ (.bool t.is)).setCell ⟨X1.heap.size, 3, none⟩ (.int .i64 t.e))) := ⟨_, rfl⟩
                  rw [← HX.out] at hT hU2 ⊢
                  clear HX f0 f1 f2 f3 g0 g1 g2 g3
                  have hS5 := hU2.below hS4 (by omega)
                  refine hK _ _ (fun _ => hS5) ?_
                  (try simp only [Act.put, List.setIfInBounds_toArray, List.set_cons_zero, List.set_cons_succ])
                  refine wpAnyN_done (by kernel_rfl) ?_ _
                  go_wp2_with fail
                  go_meet
                  exact ⟨_, _, rfl, rfl, Lib.hid (drawn_mk (p := X2.heap.size) (q := X1.heap.size) (wX := X0) (w1 := X1) (wY := X3) (w2 := X4) hl5c hl7c hA7 hS0 hf hb1 (bNext (bNext (Below.refl _ _) hb2) hb3) (by omega) (by omega) hpq hU hW hU2 hT)⟩
              · simp only [List.getElem_toArray, List.getElem_cons_zero, List.getElem_cons_succ]
                go_simp
                obtain ⟨X1, HX⟩ : ∃ X, Hid (X = X0.alloc (.cells #[.slice none 0 0, .slice none 0 0, .int .i64 0, .int .i64 0, .int .i64 0] 25)) := ⟨_, rfl⟩
                have hb1 : Below X0.heap.size X0 X1 := by rw [HX.out]; exact bAlloc _ _
                have hz1 : X0.heap.size < X1.heap.size := by rw [HX.out]; simp
                have hP : Blk X1 X0.heap.size 25 #[.slice none 0 0, .slice none 0 0, .int .i64 0, .int .i64 0, .int .i64 0] := by rw [HX.out]; exact Blk.new _ _ _
                rw [← HX.out]
                clear HX
                have hS1 := bNext hS0 hb1
                refine hK _ _ (fun _ => hS1) ?_
                (try simp only [Act.put, List.setIfInBounds_toArray, List.set_cons_zero, List.set_cons_succ])
                refine wpAnyN_two (i := 5) (j := 10) (by kernel_rfl) rfl rfl (fun K hK => ?_) (fun K hK => ?_)
                · simp only [List.getElem_toArray, List.getElem_cons_zero, List.getElem_cons_succ]
                  go_simp
                  refine (HWANT.out _ _ (hA7.at.next hS1)).mono ?_
                  rintro e X2 ⟨⟨v', rfl, hf⟩, hb2⟩
                  have hm := RetA.at' hf (hA7.at.next hS1) hb2
                  obtain ⟨C0, c0, C1, c1, hv, -, -, -⟩ := hm
                  obtain rfl : v' = .agg #[.slice C0 u.files.length c0, .slice C1 u.opn.length c1, .int .i64 u.inp, .int .i64 u.out, .int .i64 u.nxt] := hv
                  dsimp only [T.v]
                  have hS2 := bNext hS1 hb2
                  refine hK _ _ (fun _ => hS2) ?_
                  refine wpAnyN_take (i := 6) (v := ?v29) rfl (by kernel_rfl) (by kernel_rfl) (by kernel_rfl) (by kernel_rfl) (fun _ _ _ h => h) (Or.inl ⟨by rfl, ?hy29⟩) (by assumption) ?_
                  case hy29 => intro w hSw; (try dsimp only at hSw); go_simp; try with_reducible rfl
                  simp only [Act.put, List.getElem_toArray, List.getElem_cons_zero, List.getElem_cons_succ, List.setIfInBounds_toArray, List.set_cons_zero, List.set_cons_succ]
                  refine wpAnyN_take (i := 7) (v := ?v30) rfl (by kernel_rfl) (by kernel_rfl) (by kernel_rfl) (by kernel_rfl) (fun _ _ _ h => h) (Or.inl ⟨by rfl, ?hy30⟩) (by assumption) ?_
                  case hy30 => intro w hSw; (try dsimp only at hSw); go_simp; try with_reducible rfl
                  simp only [Act.put, List.getElem_toArray, List.getElem_cons_zero, List.getElem_cons_succ, List.setIfInBounds_toArray, List.set_cons_zero, List.set_cons_succ]
                  refine wpAnyN_take (i := 8) (v := ?v31) rfl (by kernel_rfl) (by kernel_rfl) (by kernel_rfl) (by kernel_rfl) (fun _ _ _ h => h) (Or.inl ⟨by rfl, ?hy31⟩) (by assumption) ?_
                  case hy31 => intro w hSw; (try dsimp only at hSw); go_simp; try with_reducible rfl
                  simp only [Act.put, List.getElem_toArray, List.getElem_cons_zero, List.getElem_cons_succ, List.setIfInBounds_toArray, List.set_cons_zero, List.set_cons_succ]
                  (try simp only [Act.put, List.setIfInBounds_toArray, List.set_cons_zero, List.set_cons_succ])
                  replace hP := hP.next hb2
                  refine wpAnyN_one (i := 10) (by kernel_rfl) rfl (fun K hK => ?_)
                  simp only [List.getElem_toArray, List.getElem_cons_zero, List.getElem_cons_succ]
                  go_simp
                  obtain ⟨X3, HX⟩ : ∃ X, Hid (X = X2.alloc (.cells #[.int .i64 0, .string ⟨#[]⟩, .bool false, .int .i64 0] 61)) := ⟨_, rfl⟩
                  have hb3 : Below X2.heap.size X2 X3 := by rw [HX.out]; exact bAlloc _ _
                  have hz3 : X2.heap.size < X3.heap.size := by rw [HX.out]; simp
                  have hQ : Blk X3 X2.heap.size 61 #[.int .i64 0, .string ⟨#[]⟩, .bool false, .int .i64 0] := by rw [HX.out]; exact Blk.new _ _ _
                  rw [← HX.out]
                  clear HX
                  have hS3 := bNext hS2 hb3
                  refine hK _ _ (fun _ => hS3) ?_
                  (try simp only [Act.put, List.setIfInBounds_toArray, List.set_cons_zero, List.set_cons_succ])
                  replace hP := hP.next hb3
                  have hy1 := hb1.size
                  have hy2 := hb2.size
                  have hy3 := hb3.size
                  have hpq : X0.heap.size ≠ X2.heap.size := by omega
                  have hy0 := hS0.size
                  have f0 := hP.frozen 0; have f1 := hP.frozen 1; have f2 := hP.frozen 2; have f3 := hP.frozen 3; have f4 := hP.frozen 4
                  have g0 := hP.cell 0; have g1 := hP.cell 1; have g2 := hP.cell 2; have g3 := hP.cell 3; have g4 := hP.cell 4
                  have gl := hP.lt
                  simp at g0 g1 g2 g3 g4
                  refine wpAnyN_one (i := 11) (by kernel_rfl) rfl (fun K hK => ?_)
                  simp only [List.getElem_toArray, List.getElem_cons_zero, List.getElem_cons_succ]
                  go_simp
                  obtain ⟨hW, hU⟩ := put5 (a0 := .slice C0 u.files.length c0) (a1 := .slice C1 u.opn.length c1) (a2 := .int .i64 u.inp) (a3 := .int .i64 u.out) (a4 := .int .i64 u.nxt) hP
                  obtain ⟨X4, HX⟩ : ∃ X, Hid (X = (((((X3.setCell ⟨X0.heap.size, 0, none⟩ (.slice C0 u.files.length c0)).setCell ⟨X0.heap.size, 1, none⟩ (.slice C1 u.opn.length c1)).setCell ⟨X0.heap.size, 2, none⟩ (.int .i64 u.inp)).setCell ⟨X0.heap.size, 3, none⟩ (.int .i64 u.out)).setCell ⟨X0.heap.size, 4, none⟩ (.int .i64 u.nxt))) := ⟨_, rfl⟩
                  rw [← HX.out] at hW hU ⊢
                  clear HX f0 f1 f2 f3 f4 g0 g1 g2 g3 g4
                  have hS4 := hU.below hS3 (by omega)
                  refine hK _ _ (fun _ => hS4) ?_
                  (try simp only [Act.put, List.setIfInBounds_toArray, List.set_cons_zero, List.set_cons_succ])
                  replace hQ := hU.blk hQ (Ne.symm hpq)
                  have f0 := hQ.frozen 0; have f1 := hQ.frozen 1; have f2 := hQ.frozen 2; have f3 := hQ.frozen 3
                  have g0 := hQ.cell 0; have g1 := hQ.cell 1; have g2 := hQ.cell 2; have g3 := hQ.cell 3
                  have gm := hQ.lt
                  simp at g0 g1 g2 g3
                  refine wpAnyN_one (i := 12) (by kernel_rfl) rfl (fun K hK => ?_)
                  simp only [List.getElem_toArray, List.getElem_cons_zero, List.getElem_cons_succ]
                  go_simp
                  obtain ⟨hT, hU2⟩ := put4 (a0 := .int .i64 t.n) (a1 := .string t.text) (a2 := .bool t.is) (a3 := .int .i64 t.e) hQ
                  obtain ⟨X5, HX⟩ : ∃ X, Hid (X = ((((X4.setCell ⟨X2.heap.size, 0, none⟩ (.int .i64 t.n)).setCell ⟨X2.heap.size, 1, none⟩ (.string t.text)).setCell ⟨X2.heap.size, 2, none⟩ (.bool t.is)).setCell ⟨X2.heap.size, 3, none⟩ (.int .i64 t.e))) := ⟨_, rfl⟩
                  rw [← HX.out] at hT hU2 ⊢
                  clear HX f0 f1 f2 f3 g0 g1 g2 g3
                  have hS5 := hU2.below hS4 (by omega)
                  refine hK _ _ (fun _ => hS5) ?_
                  (try simp only [Act.put, List.setIfInBounds_toArray, List.set_cons_zero, List.set_cons_succ])
                  refine wpAnyN_done (by kernel_rfl) ?_ _
                  go_wp2_with fail
                  go_meet
                  exact ⟨_, _, rfl, rfl, Lib.hid (drawn_mk (p := X0.heap.size) (q := X2.heap.size) (wX := X1) (w1 := X2) (wY := X3) (w2 := X4) hl5c hl7c hA7 hS1 hf hb2 (bNext (Below.refl _ _) hb3) (by omega) (by omega) hpq hU hW hU2 hT)⟩
                · simp only [List.getElem_toArray, List.getElem_cons_zero, List.getElem_cons_succ]
                  go_simp
                  obtain ⟨X2, HX⟩ : ∃ X, Hid (X = X1.alloc (.cells #[.int .i64 0, .string ⟨#[]⟩, .bool false, .int .i64 0] 61)) := ⟨_, rfl⟩
                  have hb2 : Below X1.heap.size X1 X2 := by rw [HX.out]; exact bAlloc _ _
                  have hz2 : X1.heap.size < X2.heap.size := by rw [HX.out]; simp
                  have hQ : Blk X2 X1.heap.size 61 #[.int .i64 0, .string ⟨#[]⟩, .bool false, .int .i64 0] := by rw [HX.out]; exact Blk.new _ _ _
                  rw [← HX.out]
                  clear HX
                  have hS2 := bNext hS1 hb2
                  refine hK _ _ (fun _ => hS2) ?_
                  (try simp only [Act.put, List.setIfInBounds_toArray, List.set_cons_zero, List.set_cons_succ])
                  replace hP := hP.next hb2
                  refine wpAnyN_one (i := 5) (by kernel_rfl) rfl (fun K hK => ?_)
                  simp only [List.getElem_toArray, List.getElem_cons_zero, List.getElem_cons_succ]
                  go_simp
                  refine (HWANT.out _ _ (hA7.at.next hS2)).mono ?_
                  rintro e X3 ⟨⟨v', rfl, hf⟩, hb3⟩
                  have hm := RetA.at' hf (hA7.at.next hS2) hb3
                  obtain ⟨C0, c0, C1, c1, hv, -, -, -⟩ := hm
                  obtain rfl : v' = .agg #[.slice C0 u.files.length c0, .slice C1 u.opn.length c1, .int .i64 u.inp, .int .i64 u.out, .int .i64 u.nxt] := hv
                  dsimp only [T.v]
                  have hS3 := bNext hS2 hb3
                  refine hK _ _ (fun _ => hS3) ?_
                  refine wpAnyN_take (i := 6) (v := ?v32) rfl (by kernel_rfl) (by kernel_rfl) (by kernel_rfl) (by kernel_rfl) (fun _ _ _ h => h) (Or.inl ⟨by rfl, ?hy32⟩) (by assumption) ?_
                  case hy32 => intro w hSw; (try dsimp only at hSw); go_simp; try with_reducible rfl
                  simp only [Act.put, List.getElem_toArray, List.getElem_cons_zero, List.getElem_cons_succ, List.setIfInBounds_toArray, List.set_cons_zero, List.set_cons_succ]
                  refine wpAnyN_take (i := 7) (v := ?v33) rfl (by kernel_rfl) (by kernel_rfl) (by kernel_rfl) (by kernel_rfl) (fun _ _ _ h => h) (Or.inl ⟨by rfl, ?hy33⟩) (by assumption) ?_
                  case hy33 => intro w hSw; (try dsimp only at hSw); go_simp; try with_reducible rfl
                  simp only [Act.put, List.getElem_toArray, List.getElem_cons_zero, List.getElem_cons_succ, List.setIfInBounds_toArray, List.set_cons_zero, List.set_cons_succ]
                  refine wpAnyN_take (i := 8) (v := ?v34) rfl (by kernel_rfl) (by kernel_rfl) (by kernel_rfl) (by kernel_rfl) (fun _ _ _ h => h) (Or.inl ⟨by rfl, ?hy34⟩) (by assumption) ?_
                  case hy34 => intro w hSw; (try dsimp only at hSw); go_simp; try with_reducible rfl
                  simp only [Act.put, List.getElem_toArray, List.getElem_cons_zero, List.getElem_cons_succ, List.setIfInBounds_toArray, List.set_cons_zero, List.set_cons_succ]
                  (try simp only [Act.put, List.setIfInBounds_toArray, List.set_cons_zero, List.set_cons_succ])
                  replace hP := hP.next hb3
                  replace hQ := hQ.next hb3
                  have hy1 := hb1.size
                  have hy2 := hb2.size
                  have hy3 := hb3.size
                  have hpq : X0.heap.size ≠ X1.heap.size := by omega
                  have hy0 := hS0.size
                  have f0 := hP.frozen 0; have f1 := hP.frozen 1; have f2 := hP.frozen 2; have f3 := hP.frozen 3; have f4 := hP.frozen 4
                  have g0 := hP.cell 0; have g1 := hP.cell 1; have g2 := hP.cell 2; have g3 := hP.cell 3; have g4 := hP.cell 4
                  have gl := hP.lt
                  simp at g0 g1 g2 g3 g4
                  refine wpAnyN_one (i := 11) (by kernel_rfl) rfl (fun K hK => ?_)
                  simp only [List.getElem_toArray, List.getElem_cons_zero, List.getElem_cons_succ]
                  go_simp
                  obtain ⟨hW, hU⟩ := put5 (a0 := .slice C0 u.files.length c0) (a1 := .slice C1 u.opn.length c1) (a2 := .int .i64 u.inp) (a3 := .int .i64 u.out) (a4 := .int .i64 u.nxt) hP
                  obtain ⟨X4, HX⟩ : ∃ X, Hid (X = (((((X3.setCell ⟨X0.heap.size, 0, none⟩ (.slice C0 u.files.length c0)).setCell ⟨X0.heap.size, 1, none⟩ (.slice C1 u.opn.length c1)).setCell ⟨X0.heap.size, 2, none⟩ (.int .i64 u.inp)).setCell ⟨X0.heap.size, 3, none⟩ (.int .i64 u.out)).setCell ⟨X0.heap.size, 4, none⟩ (.int .i64 u.nxt))) := ⟨_, rfl⟩
                  rw [← HX.out] at hW hU ⊢
                  clear HX f0 f1 f2 f3 f4 g0 g1 g2 g3 g4
                  have hS4 := hU.below hS3 (by omega)
                  refine hK _ _ (fun _ => hS4) ?_
                  (try simp only [Act.put, List.setIfInBounds_toArray, List.set_cons_zero, List.set_cons_succ])
                  replace hQ := hU.blk hQ (Ne.symm hpq)
                  have f0 := hQ.frozen 0; have f1 := hQ.frozen 1; have f2 := hQ.frozen 2; have f3 := hQ.frozen 3
                  have g0 := hQ.cell 0; have g1 := hQ.cell 1; have g2 := hQ.cell 2; have g3 := hQ.cell 3
                  have gm := hQ.lt
                  simp at g0 g1 g2 g3
                  refine wpAnyN_one (i := 12) (by kernel_rfl) rfl (fun K hK => ?_)
                  simp only [List.getElem_toArray, List.getElem_cons_zero, List.getElem_cons_succ]
                  go_simp
                  obtain ⟨hT, hU2⟩ := put4 (a0 := .int .i64 t.n) (a1 := .string t.text) (a2 := .bool t.is) (a3 := .int .i64 t.e) hQ
                  obtain ⟨X5, HX⟩ : ∃ X, Hid (X = ((((X4.setCell ⟨X1.heap.size, 0, none⟩ (.int .i64 t.n)).setCell ⟨X1.heap.size, 1, none⟩ (.string t.text)).setCell ⟨X1.heap.size, 2, none⟩ (.bool t.is)).setCell ⟨X1.heap.size, 3, none⟩ (.int .i64 t.e))) := ⟨_, rfl⟩
                  rw [← HX.out] at hT hU2 ⊢
                  clear HX f0 f1 f2 f3 g0 g1 g2 g3
                  have hS5 := hU2.below hS4 (by omega)
                  refine hK _ _ (fun _ => hS5) ?_
                  (try simp only [Act.put, List.setIfInBounds_toArray, List.set_cons_zero, List.set_cons_succ])
                  refine wpAnyN_done (by kernel_rfl) ?_ _
                  go_wp2_with fail
                  go_meet
                  exact ⟨_, _, rfl, rfl, Lib.hid (drawn_mk (p := X0.heap.size) (q := X1.heap.size) (wX := X2) (w1 := X3) (wY := X3) (w2 := X4) hl5c hl7c hA7 hS2 hf hb3 (Below.refl _ _) (by omega) (by omega) hpq hU hW hU2 hT)⟩
              · simp only [List.getElem_toArray, List.getElem_cons_zero, List.getElem_cons_succ]
                go_simp
                obtain ⟨X1, HX⟩ : ∃ X, Hid (X = X0.alloc (.cells #[.int .i64 0, .string ⟨#[]⟩, .bool false, .int .i64 0] 61)) := ⟨_, rfl⟩
                have hb1 : Below X0.heap.size X0 X1 := by rw [HX.out]; exact bAlloc _ _
                have hz1 : X0.heap.size < X1.heap.size := by rw [HX.out]; simp
                have hQ : Blk X1 X0.heap.size 61 #[.int .i64 0, .string ⟨#[]⟩, .bool false, .int .i64 0] := by rw [HX.out]; exact Blk.new _ _ _
                rw [← HX.out]
                clear HX
                have hS1 := bNext hS0 hb1
                refine hK _ _ (fun _ => hS1) ?_
                (try simp only [Act.put, List.setIfInBounds_toArray, List.set_cons_zero, List.set_cons_succ])
                refine wpAnyN_two (i := 5) (j := 9) (by kernel_rfl) rfl rfl (fun K hK => ?_) (fun K hK => ?_)
                · simp only [List.getElem_toArray, List.getElem_cons_zero, List.getElem_cons_succ]
                  go_simp
                  refine (HWANT.out _ _ (hA7.at.next hS1)).mono ?_
                  rintro e X2 ⟨⟨v', rfl, hf⟩, hb2⟩
                  have hm := RetA.at' hf (hA7.at.next hS1) hb2
                  obtain ⟨C0, c0, C1, c1, hv, -, -, -⟩ := hm
                  obtain rfl : v' = .agg #[.slice C0 u.files.length c0, .slice C1 u.opn.length c1, .int .i64 u.inp, .int .i64 u.out, .int .i64 u.nxt] := hv
                  dsimp only [T.v]
                  have hS2 := bNext hS1 hb2
                  refine hK _ _ (fun _ => hS2) ?_
                  refine wpAnyN_take (i := 6) (v := ?v35) rfl (by kernel_rfl) (by kernel_rfl) (by kernel_rfl) (by kernel_rfl) (fun _ _ _ h => h) (Or.inl ⟨by rfl, ?hy35⟩) (by assumption) ?_
                  case hy35 => intro w hSw; (try dsimp only at hSw); go_simp; try with_reducible rfl
                  simp only [Act.put, List.getElem_toArray, List.getElem_cons_zero, List.getElem_cons_succ, List.setIfInBounds_toArray, List.set_cons_zero, List.set_cons_succ]
                  refine wpAnyN_take (i := 7) (v := ?v36) rfl (by kernel_rfl) (by kernel_rfl) (by kernel_rfl) (by kernel_rfl) (fun _ _ _ h => h) (Or.inl ⟨by rfl, ?hy36⟩) (by assumption) ?_
                  case hy36 => intro w hSw; (try dsimp only at hSw); go_simp; try with_reducible rfl
                  simp only [Act.put, List.getElem_toArray, List.getElem_cons_zero, List.getElem_cons_succ, List.setIfInBounds_toArray, List.set_cons_zero, List.set_cons_succ]
                  refine wpAnyN_take (i := 8) (v := ?v37) rfl (by kernel_rfl) (by kernel_rfl) (by kernel_rfl) (by kernel_rfl) (fun _ _ _ h => h) (Or.inl ⟨by rfl, ?hy37⟩) (by assumption) ?_
                  case hy37 => intro w hSw; (try dsimp only at hSw); go_simp; try with_reducible rfl
                  simp only [Act.put, List.getElem_toArray, List.getElem_cons_zero, List.getElem_cons_succ, List.setIfInBounds_toArray, List.set_cons_zero, List.set_cons_succ]
                  (try simp only [Act.put, List.setIfInBounds_toArray, List.set_cons_zero, List.set_cons_succ])
                  replace hQ := hQ.next hb2
                  refine wpAnyN_one (i := 9) (by kernel_rfl) rfl (fun K hK => ?_)
                  simp only [List.getElem_toArray, List.getElem_cons_zero, List.getElem_cons_succ]
                  go_simp
                  obtain ⟨X3, HX⟩ : ∃ X, Hid (X = X2.alloc (.cells #[.slice none 0 0, .slice none 0 0, .int .i64 0, .int .i64 0, .int .i64 0] 25)) := ⟨_, rfl⟩
                  have hb3 : Below X2.heap.size X2 X3 := by rw [HX.out]; exact bAlloc _ _
                  have hz3 : X2.heap.size < X3.heap.size := by rw [HX.out]; simp
                  have hP : Blk X3 X2.heap.size 25 #[.slice none 0 0, .slice none 0 0, .int .i64 0, .int .i64 0, .int .i64 0] := by rw [HX.out]; exact Blk.new _ _ _
                  rw [← HX.out]
                  clear HX
                  have hS3 := bNext hS2 hb3
                  refine hK _ _ (fun _ => hS3) ?_
                  (try simp only [Act.put, List.setIfInBounds_toArray, List.set_cons_zero, List.set_cons_succ])
                  replace hQ := hQ.next hb3
                  have hy1 := hb1.size
                  have hy2 := hb2.size
                  have hy3 := hb3.size
                  have hpq : X2.heap.size ≠ X0.heap.size := by omega
                  have hy0 := hS0.size
                  have f0 := hP.frozen 0; have f1 := hP.frozen 1; have f2 := hP.frozen 2; have f3 := hP.frozen 3; have f4 := hP.frozen 4
                  have g0 := hP.cell 0; have g1 := hP.cell 1; have g2 := hP.cell 2; have g3 := hP.cell 3; have g4 := hP.cell 4
                  have gl := hP.lt
                  simp at g0 g1 g2 g3 g4
                  refine wpAnyN_one (i := 11) (by kernel_rfl) rfl (fun K hK => ?_)
                  simp only [List.getElem_toArray, List.getElem_cons_zero, List.getElem_cons_succ]
                  go_simp
                  obtain ⟨hW, hU⟩ := put5 (a0 := .slice C0 u.files.length c0) (a1 := .slice C1 u.opn.length c1) (a2 := .int .i64 u.inp) (a3 := .int .i64 u.out) (a4 := .int .i64 u.nxt) hP
                  obtain ⟨X4, HX⟩ : ∃ X, Hid (X = (((((X3.setCell ⟨X2.heap.size, 0, none⟩ (.slice C0 u.files.length c0)).setCell ⟨X2.heap.size, 1, none⟩ (.slice C1 u.opn.length c1)).setCell ⟨X2.heap.size, 2, none⟩ (.int .i64 u.inp)).setCell ⟨X2.heap.size, 3, none⟩ (.int .i64 u.out)).setCell ⟨X2.heap.size, 4, none⟩ (.int .i64 u.nxt))) := ⟨_, rfl⟩
                  rw [← HX.out] at hW hU ⊢
                  clear HX f0 f1 f2 f3 f4 g0 g1 g2 g3 g4
                  have hS4 := hU.below hS3 (by omega)
                  refine hK _ _ (fun _ => hS4) ?_
                  (try simp only [Act.put, List.setIfInBounds_toArray, List.set_cons_zero, List.set_cons_succ])
                  replace hQ := hU.blk hQ (Ne.symm hpq)
                  have f0 := hQ.frozen 0; have f1 := hQ.frozen 1; have f2 := hQ.frozen 2; have f3 := hQ.frozen 3
                  have g0 := hQ.cell 0; have g1 := hQ.cell 1; have g2 := hQ.cell 2; have g3 := hQ.cell 3
                  have gm := hQ.lt
                  simp at g0 g1 g2 g3
                  refine wpAnyN_one (i := 12) (by kernel_rfl) rfl (fun K hK => ?_)
                  simp only [List.getElem_toArray, List.getElem_cons_zero, List.getElem_cons_succ]
                  go_simp
                  obtain ⟨hT, hU2⟩ := put4 (a0 := .int .i64 t.n) (a1 := .string t.text) (a2 := .bool t.is) (a3 := .int .i64 t.e) hQ
                  obtain ⟨X5, HX⟩ : ∃ X, Hid (X = ((((X4.setCell ⟨X0.heap.size, 0, none⟩ (.int .i64 t.n)).setCell ⟨X0.heap.size, 1, none⟩ (.string t.text)).setCell ⟨X0.heap.size, 2, none⟩ (.bool t.is)).setCell ⟨X0.heap.size, 3, none⟩ (.int .i64 t.e))) := ⟨_, rfl⟩
                  rw [← HX.out] at hT hU2 ⊢
                  clear HX f0 f1 f2 f3 g0 g1 g2 g3
                  have hS5 := hU2.below hS4 (by omega)
                  refine hK _ _ (fun _ => hS5) ?_
                  (try simp only [Act.put, List.setIfInBounds_toArray, List.set_cons_zero, List.set_cons_succ])
                  refine wpAnyN_done (by kernel_rfl) ?_ _
                  go_wp2_with fail
                  go_meet
                  exact ⟨_, _, rfl, rfl, Lib.hid (drawn_mk (p := X2.heap.size) (q := X0.heap.size) (wX := X1) (w1 := X2) (wY := X3) (w2 := X4) hl5c hl7c hA7 hS1 hf hb2 (bNext (Below.refl _ _) hb3) (by omega) (by omega) hpq hU hW hU2 hT)⟩
                · simp only [List.getElem_toArray, List.getElem_cons_zero, List.getElem_cons_succ]
                  go_simp
                  obtain ⟨X2, HX⟩ : ∃ X, Hid (X = X1.alloc (.cells #[.slice none 0 0, .slice none 0 0, .int .i64 0, .int .i64 0, .int .i64 0] 25)) := ⟨_, rfl⟩
                  have hb2 : Below X1.heap.size X1 X2 := by rw [HX.out]; exact bAlloc _ _
                  have hz2 : X1.heap.size < X2.heap.size := by rw [HX.out]; simp
                  have hP : Blk X2 X1.heap.size 25 #[.slice none 0 0, .slice none 0 0, .int .i64 0, .int .i64 0, .int .i64 0] := by rw [HX.out]; exact Blk.new _ _ _
                  rw [← HX.out]
                  clear HX
                  have hS2 := bNext hS1 hb2
                  refine hK _ _ (fun _ => hS2) ?_
                  (try simp only [Act.put, List.setIfInBounds_toArray, List.set_cons_zero, List.set_cons_succ])
                  replace hQ := hQ.next hb2
                  refine wpAnyN_one (i := 5) (by kernel_rfl) rfl (fun K hK => ?_)
                  simp only [List.getElem_toArray, List.getElem_cons_zero, List.getElem_cons_succ]
                  go_simp
                  refine (HWANT.out _ _ (hA7.at.next hS2)).mono ?_
                  rintro e X3 ⟨⟨v', rfl, hf⟩, hb3⟩
                  have hm := RetA.at' hf (hA7.at.next hS2) hb3
                  obtain ⟨C0, c0, C1, c1, hv, -, -, -⟩ := hm
                  obtain rfl : v' = .agg #[.slice C0 u.files.length c0, .slice C1 u.opn.length c1, .int .i64 u.inp, .int .i64 u.out, .int .i64 u.nxt] := hv
                  dsimp only [T.v]
                  have hS3 := bNext hS2 hb3
                  refine hK _ _ (fun _ => hS3) ?_
                  refine wpAnyN_take (i := 6) (v := ?v38) rfl (by kernel_rfl) (by kernel_rfl) (by kernel_rfl) (by kernel_rfl) (fun _ _ _ h => h) (Or.inl ⟨by rfl, ?hy38⟩) (by assumption) ?_
                  case hy38 => intro w hSw; (try dsimp only at hSw); go_simp; try with_reducible rfl
                  simp only [Act.put, List.getElem_toArray, List.getElem_cons_zero, List.getElem_cons_succ, List.setIfInBounds_toArray, List.set_cons_zero, List.set_cons_succ]
                  refine wpAnyN_take (i := 7) (v := ?v39) rfl (by kernel_rfl) (by kernel_rfl) (by kernel_rfl) (by kernel_rfl) (fun _ _ _ h => h) (Or.inl ⟨by rfl, ?hy39⟩) (by assumption) ?_
                  case hy39 => intro w hSw; (try dsimp only at hSw); go_simp; try with_reducible rfl
                  simp only [Act.put, List.getElem_toArray, List.getElem_cons_zero, List.getElem_cons_succ, List.setIfInBounds_toArray, List.set_cons_zero, List.set_cons_succ]
                  refine wpAnyN_take (i := 8) (v := ?v40) rfl (by kernel_rfl) (by kernel_rfl) (by kernel_rfl) (by kernel_rfl) (fun _ _ _ h => h) (Or.inl ⟨by rfl, ?hy40⟩) (by assumption) ?_
                  case hy40 => intro w hSw; (try dsimp only at hSw); go_simp; try with_reducible rfl
                  simp only [Act.put, List.getElem_toArray, List.getElem_cons_zero, List.getElem_cons_succ, List.setIfInBounds_toArray, List.set_cons_zero, List.set_cons_succ]
                  (try simp only [Act.put, List.setIfInBounds_toArray, List.set_cons_zero, List.set_cons_succ])
                  replace hQ := hQ.next hb3
                  replace hP := hP.next hb3
                  have hy1 := hb1.size
                  have hy2 := hb2.size
                  have hy3 := hb3.size
                  have hpq : X1.heap.size ≠ X0.heap.size := by omega
                  have hy0 := hS0.size
                  have f0 := hP.frozen 0; have f1 := hP.frozen 1; have f2 := hP.frozen 2; have f3 := hP.frozen 3; have f4 := hP.frozen 4
                  have g0 := hP.cell 0; have g1 := hP.cell 1; have g2 := hP.cell 2; have g3 := hP.cell 3; have g4 := hP.cell 4
                  have gl := hP.lt
                  simp at g0 g1 g2 g3 g4
                  refine wpAnyN_one (i := 11) (by kernel_rfl) rfl (fun K hK => ?_)
                  simp only [List.getElem_toArray, List.getElem_cons_zero, List.getElem_cons_succ]
                  go_simp
                  obtain ⟨hW, hU⟩ := put5 (a0 := .slice C0 u.files.length c0) (a1 := .slice C1 u.opn.length c1) (a2 := .int .i64 u.inp) (a3 := .int .i64 u.out) (a4 := .int .i64 u.nxt) hP
                  obtain ⟨X4, HX⟩ : ∃ X, Hid (X = (((((X3.setCell ⟨X1.heap.size, 0, none⟩ (.slice C0 u.files.length c0)).setCell ⟨X1.heap.size, 1, none⟩ (.slice C1 u.opn.length c1)).setCell ⟨X1.heap.size, 2, none⟩ (.int .i64 u.inp)).setCell ⟨X1.heap.size, 3, none⟩ (.int .i64 u.out)).setCell ⟨X1.heap.size, 4, none⟩ (.int .i64 u.nxt))) := ⟨_, rfl⟩
                  rw [← HX.out] at hW hU ⊢
                  clear HX f0 f1 f2 f3 f4 g0 g1 g2 g3 g4
                  have hS4 := hU.below hS3 (by omega)
                  refine hK _ _ (fun _ => hS4) ?_
                  (try simp only [Act.put, List.setIfInBounds_toArray, List.set_cons_zero, List.set_cons_succ])
                  replace hQ := hU.blk hQ (Ne.symm hpq)
                  have f0 := hQ.frozen 0; have f1 := hQ.frozen 1; have f2 := hQ.frozen 2; have f3 := hQ.frozen 3
                  have g0 := hQ.cell 0; have g1 := hQ.cell 1; have g2 := hQ.cell 2; have g3 := hQ.cell 3
                  have gm := hQ.lt
                  simp at g0 g1 g2 g3
                  refine wpAnyN_one (i := 12) (by kernel_rfl) rfl (fun K hK => ?_)
                  simp only [List.getElem_toArray, List.getElem_cons_zero, List.getElem_cons_succ]
                  go_simp
                  obtain ⟨hT, hU2⟩ := put4 (a0 := .int .i64 t.n) (a1 := .string t.text) (a2 := .bool t.is) (a3 := .int .i64 t.e) hQ
                  obtain ⟨X5, HX⟩ : ∃ X, Hid (X = ((((X4.setCell ⟨X0.heap.size, 0, none⟩ (.int .i64 t.n)).setCell ⟨X0.heap.size, 1, none⟩ (.string t.text)).setCell ⟨X0.heap.size, 2, none⟩ (.bool t.is)).setCell ⟨X0.heap.size, 3, none⟩ (.int .i64 t.e))) := ⟨_, rfl⟩
                  rw [← HX.out] at hT hU2 ⊢
                  clear HX f0 f1 f2 f3 g0 g1 g2 g3
                  have hS5 := hU2.below hS4 (by omega)
                  refine hK _ _ (fun _ => hS5) ?_
                  (try simp only [Act.put, List.setIfInBounds_toArray, List.set_cons_zero, List.set_cons_succ])
                  refine wpAnyN_done (by kernel_rfl) ?_ _
                  go_wp2_with fail
                  go_meet
                  exact ⟨_, _, rfl, rfl, Lib.hid (drawn_mk (p := X1.heap.size) (q := X0.heap.size) (wX := X2) (w1 := X3) (wY := X3) (w2 := X4) hl5c hl7c hA7 hS2 hf hb3 (Below.refl _ _) (by omega) (by omega) hpq hU hW hU2 hT)⟩
            case rest =>
              obtain ⟨p2, r2, rfl, rfl, HD⟩ := hcut
              obtain ⟨G0, g0, G1, g1, ⟨hp2, hr2, hpr2⟩, kp2, kr2, hAG, hbd⟩ := HD.out
              have HBd := Lib.hid (bNext HBc.out hbd)
              have H5d := Lib.hid (H5c.out.next hbd)
              have H7d := Lib.hid (h7.next hbd)
              have HA5d := Lib.hid (HA5c.out.next hbd)
              have HA7d := Lib.hid (hA7.next hbd)
              have HAF := Lib.hid (hAF.next hbd)
              have HAG := Lib.hid hAG
              have kp1d := kp1.next hbd
              have kr1d := kr1.next hbd
              clear HD hbd hA7 h7 y0 y1 y2 y3 y4 y5 kp1 kr1 hAF hAG HA5c H5c HACT HWANT HA5 HA7 H5 H7 hbc
              have hn5 : p1 ≠ a5 ∧ p2 ≠ a5 ∧ p1 ≠ a7 ∧ p2 ≠ a7 := by omega
              have hn57 : p1 ≠ p2 := by omega
              clear hp1 hr1 hpr1 hp2 hr2 hpr2 hl5' hl6' hzc hl5c hl7c habc hl5 hl7 hlb hab'
              have te := t_neq
              have z0 := kr1d.cell 0
              have z1 := kr1d.cell 1
              have z2 := kr1d.cell 2
              have z3 := kr1d.cell 3
              simp at z0 z1 z2 z3
              have zz0 := kr2.cell 0
              have zz1 := kr2.cell 1
              have zz2 := kr2.cell 2
              have zz3 := kr2.cell 3
              simp at zz0 zz1 zz2 zz3
              have zf0 := kp1d.cell 0
              have zf1 := kp1d.cell 1
              have zf2 := kp1d.cell 2
              have zf3 := kp1d.cell 3
              have zf4 := kp1d.cell 4
              simp at zf0 zf1 zf2 zf3 zf4
              have zg0 := kp2.cell 0
              have zg1 := kp2.cell 1
              have zg2 := kp2.cell 2
              have zg3 := kp2.cell 3
              have zg4 := kp2.cell 4
              simp at zg0 zg1 zg2 zg3 zg4
              go_wp2_with fail
              refine (same12_any _ _ u _ HAF.out.at HAG.out.at).mono ?_
              rintro e we ⟨rfl, hbe⟩
              have HBe := Lib.hid (bNext HBd.out hbe)
              have H5e := Lib.hid (H5d.out.next hbe)
              have H7e := Lib.hid (H7d.out.next hbe)
              have HA5e := Lib.hid (HA5d.out.next hbe)
              have HA7e := Lib.hid (HA7d.out.next hbe)
              have HAFe := Lib.hid (HAF.out.next hbe)
              have HAGe := Lib.hid (HAG.out.next hbe)
              have HP1 := Lib.hid (kp1d.next hbe)
              have HP2 := Lib.hid (kp2.next hbe)
              have kr1e := kr1d.next hbe
              clear hbe HBd H5d H7d HA5d HA7d HAF HAG kp1d kp2 kr1d kr2 te z0 z1 z2 z3 zz0 zz1 zz2 zz3 zf0 zf1 zf2 zf3 zf4 zg0 zg1 zg2 zg3 zg4
              have z0 := kr1e.cell 0
              have z1 := kr1e.cell 1
              have z2 := kr1e.cell 2
              have z3 := kr1e.cell 3
              simp at z0 z1 z2 z3
              by_cases h0 : t.e = 0
              · rw [h0] at z3
                have zl := kr1e.lt
                go_upto_region 13 with fail
                refine wp_region_N (fun w' => Blk w' p1 25 #[.slice F0 u.files.length f0, .slice F1 u.opn.length f1, .int .i64 u.inp, .int .i64 u.out, .int .i64 u.nxt] ∧ Blk w' p2 25 #[.slice G0 u.files.length g0, .slice G1 u.opn.length g1, .int .i64 u.inp, .int .i64 u.out, .int .i64 u.nxt]) (fun j => decide (j < 3)) (by kernel_rfl) ?_
                have hS0 : (fun w' => Blk w' p1 25 #[.slice F0 u.files.length f0, .slice F1 u.opn.length f1, .int .i64 u.inp, .int .i64 u.out, .int .i64 u.nxt] ∧ Blk w' p2 25 #[.slice G0 u.files.length g0, .slice G1 u.opn.length g1, .int .i64 u.inp, .int .i64 u.out, .int .i64 u.nxt]) we.drew := ⟨HP1.out, HP2.out⟩
                obtain ⟨Y0, HX⟩ : ∃ X, Hid (X = we.drew) := ⟨_, rfl⟩
                have hbY : Below we.heap.size we Y0 := by rw [HX.out]; exact bDrewN (Below.refl _ _) 1
                rw [← HX.out] at hS0 ⊢
                clear HX
                have HBy := Lib.hid (bNext HBe.out hbY)
                have hy5 := H5e.out.next hbY
                have hy7 := H7e.out.next hbY
                have hyF := HAFe.out.next hbY
                have hyG := HAGe.out.next hbY
                clear hbY
                refine wpAnyN_take (i := 0) (v := ?v41) rfl (by kernel_rfl) (by kernel_rfl) (by kernel_rfl) (by kernel_rfl) (fun _ _ _ h => h) (Or.inl ⟨by rfl, ?hy41⟩) (by assumption) ?_
                case hy41 => intro w hSw; obtain ⟨u4, u5⟩ := hSw; have e0 := u4.cell 0; have e1 := u4.cell 1; have e2 := u4.cell 2; have e3 := u4.cell 3; have e4 := u4.cell 4; have i0 := u5.cell 0; have i1 := u5.cell 1; have i2 := u5.cell 2; have i3 := u5.cell 3; have i4 := u5.cell 4; simp at e0 e1 e2 e3 e4 i0 i1 i2 i3 i4; go_simp; try with_reducible rfl
                simp only [Act.put, List.getElem_toArray, List.getElem_cons_zero, List.setIfInBounds_toArray, List.set_cons_zero, List.set_cons_succ]
                refine wpAnyN_take (i := 1) (v := ?v42) rfl (by kernel_rfl) (by kernel_rfl) (by kernel_rfl) (by kernel_rfl) (fun _ _ _ h => h) (Or.inl ⟨by rfl, ?hy42⟩) (by assumption) ?_
                case hy42 => intro w hSw; obtain ⟨u4, u5⟩ := hSw; have e0 := u4.cell 0; have e1 := u4.cell 1; have e2 := u4.cell 2; have e3 := u4.cell 3; have e4 := u4.cell 4; have i0 := u5.cell 0; have i1 := u5.cell 1; have i2 := u5.cell 2; have i3 := u5.cell 3; have i4 := u5.cell 4; simp at e0 e1 e2 e3 e4 i0 i1 i2 i3 i4; go_simp; try with_reducible rfl
                simp only [Act.put, List.getElem_toArray, List.getElem_cons_zero, List.getElem_cons_succ, List.setIfInBounds_toArray, List.set_cons_zero, List.set_cons_succ]
                have f0' := hy5.frozen 0; have f1' := hy5.frozen 1; have f2' := hy5.frozen 2; have f3' := hy5.frozen 3; have f4' := hy5.frozen 4
                have k0 := hy5.cell 0; have k1 := hy5.cell 1; have k2 := hy5.cell 2; have k3 := hy5.cell 3; have k4 := hy5.cell 4
                have gl := hy5.lt
                simp at k0 k1 k2 k3 k4
                refine wpAnyN_one (i := 2) (by kernel_rfl) rfl (fun K hK => ?_)
                simp only [List.getElem_toArray, List.getElem_cons_zero, List.getElem_cons_succ]
                go_simp
                obtain ⟨hW, hU⟩ := put5 (a0 := .slice F0 u.files.length f0) (a1 := .slice F1 u.opn.length f1) (a2 := .int .i64 u.inp) (a3 := .int .i64 u.out) (a4 := .int .i64 u.nxt) hy5
                obtain ⟨Y1, HX⟩ : ∃ X, Hid (X = (((((Y0.setCell ⟨a5, 0, none⟩ (.slice F0 u.files.length f0)).setCell ⟨a5, 1, none⟩ (.slice F1 u.opn.length f1)).setCell ⟨a5, 2, none⟩ (.int .i64 u.inp)).setCell ⟨a5, 3, none⟩ (.int .i64 u.out)).setCell ⟨a5, 4, none⟩ (.int .i64 u.nxt))) := ⟨_, rfl⟩
                rw [← HX.out] at hW hU ⊢
                clear HX f0' f1' f2' f3' f4' k0 k1 k2 k3 k4 gl
                refine hK _ _ (fun _ => ⟨hU.blk hS0.1 hn5.1, hU.blk hS0.2 hn5.2.1⟩) ?_
                (try simp only [Act.put, List.setIfInBounds_toArray, List.set_cons_zero, List.set_cons_succ])
                replace hy7 := hU.blk hy7 (by rintro rfl; exact h57 rfl)
                have f0' := hy7.frozen 0; have f1' := hy7.frozen 1; have f2' := hy7.frozen 2; have f3' := hy7.frozen 3; have f4' := hy7.frozen 4
                have k0 := hy7.cell 0; have k1 := hy7.cell 1; have k2 := hy7.cell 2; have k3 := hy7.cell 3; have k4 := hy7.cell 4
                have gl := hy7.lt
                simp at k0 k1 k2 k3 k4
                refine wpAnyN_one (i := 3) (by kernel_rfl) rfl (fun K hK => ?_)
                simp only [List.getElem_toArray, List.getElem_cons_zero, List.getElem_cons_succ]
                go_simp
                obtain ⟨hT, hU2⟩ := put5 (a0 := .slice G0 u.files.length g0) (a1 := .slice G1 u.opn.length g1) (a2 := .int .i64 u.inp) (a3 := .int .i64 u.out) (a4 := .int .i64 u.nxt) hy7
                obtain ⟨Y2, HX⟩ : ∃ X, Hid (X = (((((Y1.setCell ⟨a7, 0, none⟩ (.slice G0 u.files.length g0)).setCell ⟨a7, 1, none⟩ (.slice G1 u.opn.length g1)).setCell ⟨a7, 2, none⟩ (.int .i64 u.inp)).setCell ⟨a7, 3, none⟩ (.int .i64 u.out)).setCell ⟨a7, 4, none⟩ (.int .i64 u.nxt))) := ⟨_, rfl⟩
                rw [← HX.out] at hT hU2 ⊢
                clear HX f0' f1' f2' f3' f4' k0 k1 k2 k3 k4 gl
                refine hK _ _ (fun h => absurd h (by decide)) ?_
                (try simp only [Act.put, List.setIfInBounds_toArray, List.set_cons_zero, List.set_cons_succ])
                replace hW := hU2.blk hW h57
                have HBx := Lib.hid (hU2.below (hU.below HBy.out h5w) h7w)
                have HAFx := Lib.hid ((hyF.upd hU).upd' hU2)
                have HAGx := Lib.hid ((hyG.upd hU).upd' hU2)
                clear hyF hyG HBy hy5 hy7
                refine wpAnyN_done (by kernel_rfl) ?_ _
                have k0 := hW.cell 0
                have k1 := hW.cell 1
                have k2 := hW.cell 2
                have k3 := hW.cell 3
                have k4 := hW.cell 4
                simp at k0 k1 k2 k3 k4
                go_wp2_with fail
                refine (valid_any _ u _ HAFx.out.at).mono ?_
                rintro e wf ⟨rfl, hbf⟩
                rw [HVU.out h0]
                have HBf := Lib.hid (bNext HBx.out hbf)
                have H5f := Lib.hid (hW.next hbf)
                have H7f := Lib.hid (hT.next hbf)
                have HAFf := Lib.hid (HAFx.out.next hbf)
                have HAGf := Lib.hid (HAGx.out.next hbf)
                clear hbf HBx HAFx HAGx hW hT k0 k1 k2 k3 k4
                go_wp2_with fail
                exact ⟨⟨k + 1, by omega, by omega, by go_num, u, F0, f0, F1, f1, G0, g0, G1, g1, HBf, H5f, H7f, HAFf, HAGf, Lib.hid (HVU.out h0)⟩, by simp [intOf]; omega⟩
              · have zl := kr1e.lt
                go_wp2_with fail
                exact ⟨⟨k + 1, by omega, by omega, by go_num, s, C0, c0, C1, c1, D0, d0, D1, d1, HBe, H5e, H7e, HA5e, HA7e, HV⟩, by simp [intOf]; omega⟩
        · go_wp2_with fail
          refine (example_any _).mono ?_
          rintro e w4 ⟨rfl, hb4⟩
          have HB4 := Lib.hid (bNext HB.out hb4)
          clear hb4
          go_wp2_with fail
          go_ret
          exact ⟨rfl, HB4.out⟩
      · go_wp2_with fail
        refine (example_any _).mono ?_
        rintro e w4 ⟨rfl, hb4⟩
        have HB4 := Lib.hid (bNext HB.out hb4)
        clear hb4
        go_wp2_with fail
        go_ret
        exact ⟨rfl, HB4.out⟩
end Go.Proofs.Ytklpghpfdeojeaa
