/-
  Walk: New of the program.
-/
import Derived.Test.YtklpghpfdeojeaaUb
import Derived.Test.YtklpghpfdeojeaaSp
import Derived.Deep.Cut
import Derived.Outline
namespace Go.Proofs.Ytklpghpfdeojeaa
open Go.RowKit

@[reducible] def emF (n : ByteArray) : F := ⟨n, ⟨#[]⟩⟩
def stepF (l : List F) (n : ByteArray) : List F := if idxI l (fileP n) < 0 then insF l (emF n) else l
def newFiles (l : List F) : List F := stepF (stepF l inS) outS
@[reducible] def gIn : G := ⟨0, inS, 1, 0, inS, 3, false⟩
@[reducible] def gOut : G := ⟨1, outS, 3, 0, outS, 3, false⟩
@[reducible] def newS (l : List F) : Sm := ⟨newFiles l, [gIn, gOut], 0, 1, 2⟩
def newV (l : List F) : Except Int Sm := if orderedB l then (if 16 < (newFiles l).length then .error 13 else .ok (newS l)) else .error 1
theorem newV_bad {l : List F} (h : orderedB l = false) : newV l = .error 1 := by unfold newV; rw [h]; rfl
theorem newV_go {l : List F} (h : orderedB l = true) : newV l = if 16 < (newFiles l).length then .error 13 else .ok (newS l) := by unfold newV; rw [h]; rfl
theorem insF_len2 (l : List F) (f : F) : (insF l f).length = l.length + 1 := insF_len l f
theorem stepF_le (l : List F) (n : ByteArray) : (stepF l n).length ≤ l.length + 1 := by
  unfold stepF
  split
  · rw [insF_len]; omega
  · omega
def Lk (l : List F) : Nat → List F
  | 0 => l
  | 1 => stepF l inS
  | _ => newFiles l
theorem Lk_le (l : List F) (k : Nat) : (Lk l k).length ≤ l.length + 2 := by
  have h1 := stepF_le l inS
  have h2 := stepF_le (stepF l inS) outS
  match k with
  | 0 => show l.length ≤ _; omega
  | 1 => show (stepF l inS).length ≤ _; omega
  | k + 2 => show (stepF (stepF l inS) outS).length ≤ _; omega
theorem stepF_no {l : List F} {n : ByteArray} (h : idxI l (fileP n) < 0) : stepF l n = insF l (emF n) := by unfold stepF; rw [if_pos h]
theorem stepF_yes {l : List F} {n : ByteArray} (h : ¬ idxI l (fileP n) < 0) : stepF l n = l := by unfold stepF; rw [if_neg h]
theorem own_block {w : World} {base e size g n : Nat} {cur : Array Value} {xs : List Value} (h : w.heap[g]? = some (.cells cur e (0, 0))) (hb : base ≤ g) (hn : cur.size = n * size) (hm : n ≤ maxLen) (hx : cur.toList = xs) : w.ownsRow base e size (.slice (some ⟨g, 0, none⟩) n n) n xs := by
  subst hx
  have hl : cur.toList.length = n * size := by simpa using hn
  exact ⟨hl, .inr ⟨g, n, cur, rfl, hb, h, Nat.le_refl _, hm, hn, List.take_of_length_le (by omega)⟩⟩
theorem key_alloc (V : World) (o : Obj) (n : Nat) (h : V.heap.size = n) : (V.alloc o).heap[n]? = some o := by
  subst h
  exact heap_alloc_new V o
/-- what New works on -/
structure NewS (w : World) (B nb : Nat) (out nxt : Int) (l : List F) (A : Option Addr) (c : Nat) : Prop where
  box : Blk w nb 25 #[.slice A l.length c, .slice none 0 0, .int .i64 0, .int .i64 out, .int .i64 nxt]
  own : w.ownsRow B 35 2 (.slice A l.length c) l.length (fCs l)
  far : (Value.slice A l.length c).ownBlock ≠ some nb
theorem NewS.next {w w' : World} {B nb c : Nat} {out nxt : Int} {l : List F} {A : Option Addr} (h : NewS w B nb out nxt l A c) (hb : Below w.heap.size w w') : NewS w' B nb out nxt l A c := ⟨h.box.next hb, own_below h.own hb, h.far⟩
theorem NewS.cap {w : World} {B nb c : Nat} {out nxt : Int} {l : List F} {A : Option Addr} (h : NewS w B nb out nxt l A c) : CapOk A l.length c := by
  obtain ⟨A', c', e, hc⟩ := own_form h.own
  injection e with e1 _ e3
  subst e1 e3
  exact hc
theorem NewS.files {w : World} {B nb c : Nat} {out nxt : Int} {l : List F} {A : Option Addr} (h : NewS w B nb out nxt l A c) (hm : l.length ≤ 4398046511104) : FilesAt w w.heap.size A l.length l := by
  obtain ⟨A', c', e, -, -, hf⟩ := own_files h.own hm
  injection e with e1 _ e3
  subst e1 e3
  exact hf
theorem NewS.sm {w : World} {B nb c : Nat} {out nxt : Int} {l : List F} {A : Option Addr} (h : NewS w B nb out nxt l A c) (hm : l.length ≤ 4398046511104) : SmAt w w.heap.size (.agg #[.slice A l.length c, .slice none 0 0, .int .i64 0, .int .i64 out, .int .i64 nxt]) ⟨l, [], 0, out, nxt⟩ :=
  ⟨A, c, none, 0, rfl, ⟨h.cap, ⟨Nat.le_refl _, fun _ => rfl⟩⟩, h.files hm, OpensAt.nil _ _ _⟩
theorem NewS.put {w : World} {B nb c base : Nat} {out nxt : Int} {l l' : List F} {A D : Option Addr} {m e : Nat} (h : NewS w B nb out nxt l A c) (ho : w.ownsRow base 35 2 (.slice D m e) m (fCs l')) (hm : l'.length = m) (hb : B ≤ base) (hf : nb < base) :
    NewS (w.setCell ⟨nb, 0, none⟩ (.slice D m e)) B nb out nxt l' D e := by
  subst hm
  have hne : (Value.slice D l'.length e).ownBlock ≠ some nb := fun h' => by have := (ho.lt nb h').1; omega
  refine ⟨?_, ?_, hne⟩
  · have := h.box.set_ 0 (.slice D l'.length e)
    simpa using this
  · exact own_stay (own_base ho hb) fun g hg => heap_setCell_other _ _ _ _ (by simp; rintro rfl; exact hne hg)

set_option maxHeartbeats 8000000 in
theorem new_any (A : Option Addr) (n c : Nat) (l : List F) (w : World) (ha : FilesAt w w.heap.size A n l) (hcap : CapOk A n c) (hn : n ≤ 4398046510976) :
    Calls Try.prog 10 #[.slice A n c] w (RetS (newV l) w) := by
  obtain ⟨i0, hi0, hz0', hy0, hb0⟩ := info_parts info35
  obtain rfl : n = l.length := ha.1.1.symm
  have HA := Lib.hid ha
  have HC := Lib.hid hcap
  clear ha hcap
  have k0 : Blk (w.alloc (.cells #[.slice none 0 0, .slice none 0 0, .int .i64 0, .int .i64 0, .int .i64 0] 25)) w.heap.size 25 #[.slice none 0 0, .slice none 0 0, .int .i64 0, .int .i64 0, .int .i64 0] := Blk.new _ _ _
  have HBW := Lib.hid (bAlloc w (.cells #[.slice none 0 0, .slice none 0 0, .int .i64 0, .int .i64 0, .int .i64 0] 25))
  go_enter Try.func10, Try.ntmps10
  go_wp2_with fail
  refine (ordered_any A l.length c l _ (HA.out.next HBW.out)).mono ?_
  rintro e w1 ⟨rfl, hb1⟩
  have HB1 := Lib.hid (bNext HBW.out hb1)
  have k01 := k0.next hb1
  have hz0 := k01.lt
  clear k0 hb1
  have z0 := k01.cell 0
  have z1 := k01.cell 1
  have z2 := k01.cell 2
  have z3 := k01.cell 3
  have z4 := k01.cell 4
  simp at z0 z1 z2 z3 z4
  have g0 := k01.frozen 0
  have g1 := k01.frozen 1
  have g2 := k01.frozen 2
  have g3 := k01.frozen 3
  have g4 := k01.frozen 4
  cases hv : orderedB l
  · have HR := Lib.hid (newV_bad hv)
    go_wp2_with fail
    refine bodyPost_ret (v := .tuple #[zV, .int .i64 1]) (by simp only [results, Try.results10]; go_simp) rfl (RetS.bad HR.out ?_)
    repeat (first | (with_reducible exact HB1.out) | ((with_reducible refine Below.setCell ?_ ?_ _); rotate_left; focus (first | (simp; done) | (simp; omega))) | ((with_reducible refine Below.alloc ?_ ?_ _); rotate_left; focus (first | (simp; done) | (simp; omega))))
  · have HRG := Lib.hid (newV_go hv)
    have HV := Lib.hid hv
    clear hv
    have hmade : (w1.alloc (.cells #[] 35)).ownsRow (w.heap.size + 1) 35 2 (.slice (some ⟨w1.heap.size, 0, none⟩) 0 0) 0 [] :=
      World.ownsRow_made (e := 35) (size := 2) w1 #[] 0 (by omega) (by decide) rfl
    have HM := Lib.hid hmade
    clear hmade
    go_wp2_with (at_builtin; refine wpList_append_src rfl (.tmp 11) (.tmp 12) 22 rfl (w.heap.size + 1) 35 i0 _ 2 32 Try.underlying22 hi0 hz0' hy0 hb0 rfl (by decide) _ 0 [] rfl HM.out A l.length c (fCs l) rfl HC.out ?c1 ?c2 ?c3 ?c4 ?c5 ?c6 ?_)
    case c1 => rw [fCs_len]
    case c2 => exact files_cells (HA.out.below (HB1.out.alloc (by omega) _))
    case c3 => exact f_one _
    case c4 => unfold maxLen; omega
    case c5 => omega
    case c6 => simp; omega
    intro v1 w2 ho1 hg1 hat1
    have ho1 : w2.ownsRow (w.heap.size + 1) 35 2 v1 l.length (fCs l) := by simpa using ho1
    obtain ⟨D1, e1, rfl, -⟩ := own_form ho1
    have hz2 := hg1.size
    simp at hz2
    have k02 := (k01.alloc (.cells #[] 35)).grown hg1 (by simp [Value.ownBlock]; omega)
    have HB2 := Lib.hid (show Below w.heap.size w w2 from (HB1.out.alloc (by omega) _).grown hg1 (by simp; omega) (fun k hk => by simp [Value.ownBlock] at hk; omega))
    clear k01 z0 z1 z2 z3 z4 g0 g1 g2 g3 g4 hg1 hat1
    have hown := (ho1.lt)
    have HO1 := Lib.hid ho1
    clear ho1
    have hfar : (Value.slice D1 l.length e1).ownBlock ≠ some w2.heap.size := fun h => by have := (hown _ h).2; omega
    go_wp2_with fail
    obtain ⟨nb, hnb⟩ : ∃ nb, Hid (nb = w2.heap.size) := ⟨_, rfl⟩
    obtain ⟨w3, HW3⟩ : ∃ w3, Hid (w3 = (w2.alloc (.cells #[.slice D1 l.length e1, .slice none 0 0, .int .i64 0, .int .i64 1, .int .i64 2] 25)).alloc (.cells #[.string { data := #[117, 115, 101, 114, 95, 105, 110, 112, 117, 116] }, .string { data := #[117, 115, 101, 114, 95, 111, 117, 116, 112, 117, 116] }] 9)) := ⟨_, rfl⟩
    have HNS0 : Hid (NewS w3 (w.heap.size + 1) nb 1 2 l D1 e1) := by
      rw [HW3.out, hnb.out]
      exact ⟨(Blk.new w2 25 _).alloc _, (HO1.out.alloc _).alloc _, hfar⟩
    have HZ0 := Lib.hid (show Blk w3 w.heap.size 25 #[.slice none 0 0, .slice none 0 0, .int .i64 0, .int .i64 0, .int .i64 0] by rw [HW3.out]; exact (k02.alloc _).alloc _)
    have HSB0 := Lib.hid (show Blk w3 (nb + 1) 9 #[.string { data := #[117, 115, 101, 114, 95, 105, 110, 112, 117, 116] }, .string { data := #[117, 115, 101, 114, 95, 111, 117, 116, 112, 117, 116] }] by
      rw [HW3.out, hnb.out]
      have h := Blk.new (w2.alloc (.cells #[.slice D1 l.length e1, .slice none 0 0, .int .i64 0, .int .i64 1, .int .i64 2] 25)) 9 #[.string { data := #[117, 115, 101, 114, 95, 105, 110, 112, 117, 116] }, .string { data := #[117, 115, 101, 114, 95, 111, 117, 116, 112, 117, 116] }]
      rw [World.size_alloc] at h
      exact h)
    have HBx0 := Lib.hid (show Below w.heap.size w w3 by rw [HW3.out]; exact (HB2.out.alloc (by omega) _).alloc (by simp; omega) _)
    have hnbw : w.heap.size + 1 ≤ nb := by rw [hnb.out]; omega
    rw [← HW3.out, ← hnb.out]
    clear hfar hown HO1 k02 HW3 hnb hz2 hz0
    go_loopw [17] (fun i wr => ∃ k : Nat, k ≤ 2 ∧ i = .int .i64 k ∧ ∃ A' c', Hid (NewS wr (w.heap.size + 1) nb 1 2 (Lk l k) A' c') ∧ Hid (Blk wr w.heap.size 25 #[.slice none 0 0, .slice none 0 0, .int .i64 0, .int .i64 0, .int .i64 0]) ∧ Hid (Blk wr (nb + 1) 9 #[.string { data := #[117, 115, 101, 114, 95, 105, 110, 112, 117, 116] }, .string { data := #[117, 115, 101, 114, 95, 111, 117, 116, 112, 117, 116] }]) ∧ Hid (Below w.heap.size w wr)) (fun i _ => 2 - (intOf i).toNat)
    case atStart => exact ⟨0, by omega, rfl, D1, e1, HNS0.out, HZ0.out, HSB0.out, HBx0.out⟩
    case round =>
      obtain ⟨k, hk, rfl, A', c', HNS, HZ, HSB, HBx⟩ := hrel
      clear HNS0 HZ0 HSB0 HBx0
      have c0 := HNS.out.box.cell 0
      have c1 := HNS.out.box.cell 1
      have c2 := HNS.out.box.cell 2
      have c3 := HNS.out.box.cell 3
      have c4 := HNS.out.box.cell 4
      have s0 := HSB.out.cell 0
      have s1 := HSB.out.cell 1
      simp at c0 c1 c2 c3 c4 s0 s1
      have hnb3 : nb < wr.heap.size := HNS.out.box.lt
      have hsb3 : nb + 1 < wr.heap.size := HSB.out.lt
      by_cases hlt : k < 2
      · rcases Nat.lt_or_ge k 1 with hk1 | hk1
        · obtain rfl : k = 0 := by omega
          clear hk hlt
          go_wp2_with fail
          refine (file_any _ ⟨Lk l 0, [], 0, 1, 2⟩ inS _ (HNS.out.sm (by have := Lk_le l 0; omega))).mono ?_
          rintro e w4 ⟨rfl, hb4⟩
          have HNS4 := Lib.hid (HNS.out.next hb4)
          have HBx4 := Lib.hid (bNext HBx.out hb4)
          have HZ4 := Lib.hid (HZ.out.next hb4)
          have HSB4 := Lib.hid (HSB.out.next hb4)
          have hnb4 : nb < w4.heap.size := HNS4.out.box.lt
          clear hb4 c0 c1 c2 c3 c4 s0 s1
          have c0 := HNS4.out.box.cell 0
          have cf := HNS4.out.box.frozen 0
          simp at c0
          by_cases hj : idxI (Lk l 0) (fileP inS) < 0
          · have HQ := Lib.hid (stepF_no hj)
            obtain ⟨j, hje⟩ : ∃ j, idxI (Lk l 0) (fileP inS) = j := ⟨_, rfl⟩
            rw [hje] at hj
            simp only [hje]
            clear hje
            go_wp2_with fail
            refine (insert_any A' (Lk l 0).length c' (Lk l 0) (emF inS) w4 (HNS4.out.files (by have := Lk_le l 0; omega)) HNS4.out.cap (by have := Lk_le l 0; omega)).mono ?_
            rintro e w5 ⟨⟨v5, rfl, ho5⟩, hb5⟩
            obtain ⟨D5, e5, rfl, -⟩ := own_form ho5
            have hns5 := HNS4.out.next hb5
            have HNS5 := Lib.hid (hns5.put ho5 (insF_len _ _) (by omega) hnb4)
            have HBx5 := Lib.hid ((bNext HBx4.out hb5).setCell (p := ⟨nb, 0, none⟩) (by simp; omega) (.slice D5 ((Lk l 0).length + 1) e5))
            have HZ5 := Lib.hid ((HZ4.out.next hb5).far (p := ⟨nb, 0, none⟩) (by simp; omega) (.slice D5 ((Lk l 0).length + 1) e5))
            have HSB5 := Lib.hid ((HSB4.out.next hb5).far (p := ⟨nb, 0, none⟩) (by simp) (.slice D5 ((Lk l 0).length + 1) e5))
            have d0 := hns5.box.cell 0
            have df := hns5.box.frozen 0
            have dz := hns5.box.lt
            simp at d0
            clear hb5 ho5 hns5 c0 cf
            go_wp2_with fail
            refine ⟨⟨1, by omega, by go_num, D5, e5, ?_, HZ5.out, HSB5.out, HBx5.out⟩, by simp [intOf]⟩
            have h := HNS5.out
            rw [← HQ.out] at h
            exact h
          · have HQ := Lib.hid (stepF_yes hj)
            obtain ⟨j, hje⟩ : ∃ j, idxI (Lk l 0) (fileP inS) = j := ⟨_, rfl⟩
            rw [hje] at hj
            simp only [hje]
            have hjd : decide (j < 0) = false := by simp; omega
            clear hje
            go_wp2_with fail
            refine ⟨⟨1, by omega, by go_num, A', c', ?_, HZ4.out, HSB4.out, HBx4.out⟩, by simp [intOf]⟩
            have h := HNS4.out
            rw [← HQ.out] at h
            exact h
        · obtain rfl : k = 1 := by omega
          clear hk hlt
          go_wp2_with fail
          refine (file_any _ ⟨Lk l 1, [], 0, 1, 2⟩ outS _ (HNS.out.sm (by have := Lk_le l 1; omega))).mono ?_
          rintro e w4 ⟨rfl, hb4⟩
          have HNS4 := Lib.hid (HNS.out.next hb4)
          have HBx4 := Lib.hid (bNext HBx.out hb4)
          have HZ4 := Lib.hid (HZ.out.next hb4)
          have HSB4 := Lib.hid (HSB.out.next hb4)
          have hnb4 : nb < w4.heap.size := HNS4.out.box.lt
          clear hb4 c0 c1 c2 c3 c4 s0 s1
          have c0 := HNS4.out.box.cell 0
          have cf := HNS4.out.box.frozen 0
          simp at c0
          by_cases hj : idxI (Lk l 1) (fileP outS) < 0
          · have HQ := Lib.hid (stepF_no hj)
            obtain ⟨j, hje⟩ : ∃ j, idxI (Lk l 1) (fileP outS) = j := ⟨_, rfl⟩
            rw [hje] at hj
            simp only [hje]
            clear hje
            go_wp2_with fail
            refine (insert_any A' (Lk l 1).length c' (Lk l 1) (emF outS) w4 (HNS4.out.files (by have := Lk_le l 1; omega)) HNS4.out.cap (by have := Lk_le l 1; omega)).mono ?_
            rintro e w5 ⟨⟨v5, rfl, ho5⟩, hb5⟩
            obtain ⟨D5, e5, rfl, -⟩ := own_form ho5
            have hns5 := HNS4.out.next hb5
            have HNS5 := Lib.hid (hns5.put ho5 (insF_len _ _) (by omega) hnb4)
            have HBx5 := Lib.hid ((bNext HBx4.out hb5).setCell (p := ⟨nb, 0, none⟩) (by simp; omega) (.slice D5 ((Lk l 1).length + 1) e5))
            have HZ5 := Lib.hid ((HZ4.out.next hb5).far (p := ⟨nb, 0, none⟩) (by simp; omega) (.slice D5 ((Lk l 1).length + 1) e5))
            have HSB5 := Lib.hid ((HSB4.out.next hb5).far (p := ⟨nb, 0, none⟩) (by simp) (.slice D5 ((Lk l 1).length + 1) e5))
            have d0 := hns5.box.cell 0
            have df := hns5.box.frozen 0
            have dz := hns5.box.lt
            simp at d0
            clear hb5 ho5 hns5 c0 cf
            go_wp2_with fail
            refine ⟨⟨2, by omega, by go_num, D5, e5, ?_, HZ5.out, HSB5.out, HBx5.out⟩, by simp [intOf]⟩
            have h := HNS5.out
            rw [← HQ.out] at h
            exact h
          · have HQ := Lib.hid (stepF_yes hj)
            obtain ⟨j, hje⟩ : ∃ j, idxI (Lk l 1) (fileP outS) = j := ⟨_, rfl⟩
            rw [hje] at hj
            simp only [hje]
            have hjd : decide (j < 0) = false := by simp; omega
            clear hje
            go_wp2_with fail
            refine ⟨⟨2, by omega, by go_num, A', c', ?_, HZ4.out, HSB4.out, HBx4.out⟩, by simp [intOf]⟩
            have h := HNS4.out
            rw [← HQ.out] at h
            exact h
      · obtain rfl : k = 2 := by omega
        clear hk hlt
        have HN2 : Hid (NewS wr (w.heap.size + 1) nb 1 2 (newFiles l) A' c') := HNS.out
        clear c0 HNS
        have c0 := HN2.out.box.cell 0
        have f1 := HN2.out.box.frozen 1
        simp at c0
        have hlen := Lk_le l 2
        have hlen : (newFiles l).length ≤ l.length + 2 := hlen
        have zz := HZ.out.lt
        have z0 := HZ.out.cell 0
        have z1 := HZ.out.cell 1
        have z2 := HZ.out.cell 2
        have z3 := HZ.out.cell 3
        have z4 := HZ.out.cell 4
        simp at z0 z1 z2 z3 z4
        have g0 := HZ.out.frozen 0
        have g1 := HZ.out.frozen 1
        have g2 := HZ.out.frozen 2
        have g3 := HZ.out.frozen 3
        have g4 := HZ.out.frozen 4
        have HRG2 := HRG
        obtain ⟨L, hL⟩ : ∃ L, newFiles l = L := ⟨_, rfl⟩
        rw [hL] at HN2 c0 hlen
        have HL := Lib.hid hL
        clear hL HRG2
        by_cases h16 : 16 < (L.length : Int)
        · have HR := Lib.hid (show newV l = .error 13 by rw [HRG.out, HL.out, if_pos (by omega)])
          go_wp2_with fail
          refine bodyPost_ret (v := .tuple #[zV, .int .i64 13]) (by simp only [results, Try.results10]; go_simp) rfl (RetS.bad HR.out ?_)
          repeat (first | (with_reducible exact HBx.out) | ((with_reducible refine Below.setCell ?_ ?_ _); rotate_left; focus (first | (simp; done) | (simp; omega))) | ((with_reducible refine Below.alloc ?_ ?_ _); rotate_left; focus (first | (simp; done) | (simp; omega))))
        · have HR := Lib.hid (show newV l = .ok (newS l) by rw [HRG.out, HL.out, if_neg (by omega)])
          go_wp2_with fail
          refine bodyPost_ret (v := .tuple #[.agg #[.slice A' L.length c', .slice (some ⟨wr.heap.size, 0, none⟩) 2 2, .int .i64 0, .int .i64 1, .int .i64 2], .int .i64 0]) (by simp only [results, Try.results10]; go_simp) rfl (RetS.good HR.out ?_ ?_)
          · refine OwnS.base (b := w.heap.size + 1) ?_ (by omega)
            rw [newS, HL.out]
            refine ⟨_, _, rfl, ?_, ?_⟩
            · refine own_stay HN2.out.own fun g hg => ?_
              have h1 := (HN2.out.own.lt g hg).1
              have h2 : g ≠ nb := fun h => HN2.out.far (by rw [← h]; exact hg)
              have h3 := (HN2.out.own.lt g hg).2
              rw [Below.heap_alloc _ _ _ (by simp; omega)]
              repeat rw [heap_setCell_other _ _ _ _ (by simp; omega)]
            · exact own_block (key_alloc _ _ _ (by simp)) (by omega) rfl (by decide) rfl
          · repeat (first | (with_reducible exact HBx.out) | (with_reducible refine bDrewN (n := 1) ?_) | ((with_reducible refine Below.setCell ?_ ?_ _); rotate_left; focus (first | (simp; done) | (simp; omega))) | ((with_reducible refine Below.alloc ?_ ?_ _); rotate_left; focus (first | (simp; done) | (simp; omega))))

end Go.Proofs.Ytklpghpfdeojeaa
