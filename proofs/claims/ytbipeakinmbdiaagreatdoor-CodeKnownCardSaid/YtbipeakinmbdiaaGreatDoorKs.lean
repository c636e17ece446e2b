/-
  Walks: Valid (code). Walk: Text (code).
-/
import Derived.Test.YtbipeakinmbdiaaGreatDoorKg
import Derived.Test.YtbipeakinmbdiaaGreatDoorKr
namespace Go.Proofs.YtbipeakinmbdiaaGreatDoor
section
open Go.RowKit

/-- where the check of a block stands -/
structure VaS (w wr : World) (q k g : Nat) (v : Value) (ty : TypeId) (b : Bk) (A : Option Addr) (c : Nat) (ck : Ck) : Prop where
  ck : CkAt v ty wr k g ck
  bx : Blk wr q 28 #[.int .i64 b.id, .string b.pn, .int .i64 b.par, .int .i64 b.paux, .int .i64 b.kk, .int .i64 b.kn, .string b.knm, .int .i64 b.kar, .slice A b.code.length c]
  bl : Below w.heap.size w wr
  pl : w.heap.size ≤ k ∧ w.heap.size ≤ g ∧ w.heap.size ≤ q ∧ q ≠ k ∧ q ≠ g
section
variable {w wr w2 : World} {q k g c : Nat} {v : Value} {ty : TypeId} {b : Bk} {A : Option Addr} {ck ck2 : Ck}
theorem VaS.next (h : VaS w wr q k g v ty b A c ck) (hb : Below wr.heap.size wr w2) : VaS w w2 q k g v ty b A c ck := ⟨h.ck.next hb, h.bx.below hb h.bx.lt, bNext h.bl hb, h.pl⟩
theorem VaS.kept (h : VaS w wr q k g v ty b A c ck) (hk : KeptK k g wr w2) (hc : CkAt v ty w2 k g ck2) : VaS w w2 q k g v ty b A c ck2 :=
  ⟨hc, (hk.block q h.bx.lt h.pl.2.2.2.1 h.pl.2.2.2.2).trans h.bx, h.bl.trans (hk.low h.pl.1 h.pl.2.1 h.bl.size), h.pl⟩
theorem VaS.low (h : VaS w wr q k g v ty b A c ck) (hk : KeptK k g wr w2) : Below w.heap.size w w2 := h.bl.trans (hk.low h.pl.1 h.pl.2.1 h.bl.size)
end
theorem vaP_head {b : Bk} (h : hdP b = false) : vaP b = false := by unfold vaP; rw [h]; rfl
theorem vaP_low {b : Bk} (h : ¬ 1 ≤ b.code.length) : vaP b = false := by unfold vaP; simp [h]
theorem vaP_high {b : Bk} (h : ¬ b.code.length ≤ 131072) : vaP b = false := by unfold vaP; simp [h]
theorem vaP_run {b : Bk} (h : hdP b = true) (h1 : 1 ≤ b.code.length) (h2 : b.code.length ≤ 131072) : vaP b = (upto b.par b.code b.code.length).isSome := by unfold vaP; simp [h, h1, h2]
theorem beg_more (j : Nat) (x : Int) : ((begP j).d x || x == (j : Int) + 1) = (begP ((j + 1 : Nat) : Int)).d x := by
  simp only [begP]
  by_cases h : x = (j : Int) + 1
  · subst h; simp; omega
  · have e : (x == (j : Int) + 1) = false := by simpa using h
    rw [e, Bool.or_false]
    congr 1
    rw [decide_eq_decide]
    omega
theorem upto_stop {b : Bk} {j : Nat} (hj : j < b.code.length) (h : upto b.par b.code (j + 1) = none) : (upto b.par b.code b.code.length).isSome = false := by
  rw [upto_none h _ hj]; rfl
theorem upto_step {ar : Int} {l : List In} {j : Nat} {c : Ck} {x : In} (h : upto ar l j = some c) (hx : l[j]? = some x) : upto ar l (j + 1) = if fo x then stepP c x (j == 0) (j + 1 == l.length) else none := by
  show (upto ar l j).bind _ = _
  rw [h, hx]
  rfl
theorem vas_start {w w1 w2 : World} {q k g c : Nat} {b : Bk} {A : Option Addr} {ty : TypeId} {v : Value} (hb : Below w.heap.size w w1)
    (hk : Blk w1 q 28 #[.int .i64 b.id, .string b.pn, .int .i64 b.par, .int .i64 b.paux, .int .i64 b.kk, .int .i64 b.kn, .string b.knm, .int .i64 b.kar, .slice A b.code.length c])
    (hq : w.heap.size ≤ q) (hq1 : q < w1.heap.size) (eg : g = w1.heap.size) (ek : k = w1.heap.size + 1)
    (ew : w2 = (w1.alloc (.map #[] 0)).alloc (.cells #[.map (some w1.heap.size), .int .i64 (-1), .int .i64 0, .int .i64 0, .bool false] ty)) : VaS w w2 q k g v ty b A c (begP (0 : Nat)) := by
  subst eg ek ew
  have hsz := hb.size
  refine ⟨⟨?_, ?_⟩, (hk.alloc _).alloc _, (hb.alloc hb.size _).alloc (by simp; omega) _, ⟨by omega, hb.size, hq, by omega, by omega⟩⟩
  · have h := Blk.new (w1.alloc (.map #[] 0)) ty #[.map (some w1.heap.size), .int .i64 (-1), .int .i64 0, .int .i64 0, .bool false]
    rw [World.size_alloc] at h
    exact h
  · exact ((SetI.new w1).alloc _).congr (fun x => by
      show false = (decide (1 ≤ x) && decide (x ≤ ((0 : Nat) : Int)))
      by_cases h : 1 ≤ x
      · have : decide (x ≤ ((0 : Nat) : Int)) = false := by simp; omega
        rw [this, Bool.and_false]
      · have : decide (1 ≤ x) = false := by simpa using h
        rw [this, Bool.false_and])
set_option maxRecDepth 100000 in
set_option maxHeartbeats 4000000 in
theorem valid_any (b : Bk) (A : Option Addr) (c : Nat) (w : World) (ha : InsAt w w.heap.size A b.code.length b.code) : Calls Tryz.prog 15 #[b.v A c] w fun e w' => e = .returned (.bool (vaP b)) ∧ Below w.heap.size w w' := by
  have HA := Lib.hid ha
  have hnl := ha.1.2
  have hmm := @run_makeMap Tryz.prog
  clear ha
  obtain ⟨W, HW⟩ : ∃ X, Hid (X = w.alloc (.cells #[.int .i64 b.id, .string b.pn, .int .i64 b.par, .int .i64 b.paux, .int .i64 b.kk, .int .i64 b.kn, .string b.knm, .int .i64 b.kar, .slice A b.code.length c] 28)) := ⟨_, rfl⟩
  obtain ⟨q, hq⟩ : ∃ q, Hid (q = w.heap.size) := ⟨_, rfl⟩
  have HB := Lib.hid (show Below w.heap.size w W by rw [HW.out]; exact bAlloc _ _)
  have HK := Lib.hid (show Blk W q 28 #[.int .i64 b.id, .string b.pn, .int .i64 b.par, .int .i64 b.paux, .int .i64 b.kk, .int .i64 b.kn, .string b.knm, .int .i64 b.kar, .slice A b.code.length c] by rw [HW.out, hq.out]; exact Blk.new _ _ _)
  have HQW := Lib.hid (show q < W.heap.size by rw [HW.out, hq.out]; simp)
  have hqw : w.heap.size ≤ q := by rw [hq.out]; exact Nat.le_refl _
  go_enter Tryz.func15, Tryz.ntmps15
  go_upto_region 1 with fail
  rw [← HW.out, ← hq.out]
  clear HW hq
  have c0 := HK.out.cell 0
  have c1 := HK.out.cell 1
  have c2 := HK.out.cell 2
  have c3 := HK.out.cell 3
  have c4 := HK.out.cell 4
  have c5 := HK.out.cell 5
  have c6 := HK.out.cell 6
  have c7 := HK.out.cell 7
  have c8 := HK.out.cell 8
  have cl := HK.out.lt
  simp at c0 c1 c2 c3 c4 c5 c6 c7 c8
  obtain ⟨n, hn⟩ : ∃ n, Hid (n = b.code.length) := ⟨_, rfl⟩
  rw [← hn.out] at c8 hnl
  go_wp2_with fail
  rw [hn.out]
  refine (validHead_any b A c W).mono ?_
  rintro e w1 ⟨rfl, hb⟩
  have HB1 := Lib.hid (bNext HB.out hb)
  have HK1 := Lib.hid (HK.out.below hb HK.out.lt)
  have HS1 := Lib.hid hb.size
  clear hb c0 c1 c2 c3 c4 c5 c6 c7 c8 cl
  rw [← hn.out]
  cases hp : hdP b
  · have HE := Lib.hid (vaP_head hp)
    clear hp
    go_wp2_with fail
    go_ret
    exact ⟨ret_bool HE.out.symm, HB1.out⟩
  · by_cases h1 : 1 ≤ b.code.length
    · by_cases h2 : b.code.length ≤ 131072
      · have q1 : decide ((n : Int) < 1) = false := by rw [hn.out]; simp; omega
        have q2 : decide (131072 < (n : Int)) = false := by rw [hn.out]; simp; omega
        have HV := Lib.hid (vaP_run hp h1 h2)
        have HP := Lib.hid (hd_par hp)
        have HL := Lib.hid (And.intro h1 h2)
        clear hp h1 h2
        go_upto_region 5 with fail
        obtain ⟨g, hg⟩ : ∃ g, Hid (g = w1.heap.size) := ⟨_, rfl⟩
        obtain ⟨k, hk⟩ : ∃ k, Hid (k = w1.heap.size + 1) := ⟨_, rfl⟩
        obtain ⟨w2, hw2⟩ : ∃ X, Hid (X = (w1.alloc (.map #[] 0)).alloc (.cells #[.map (some w1.heap.size), .int .i64 (-1), .int .i64 0, .int .i64 0, .bool false] 60)) := ⟨_, rfl⟩
        rw [← hw2.out, ← hk.out, ← hg.out]
        have HS := Lib.hid (vas_start (v := .bool true) HB1.out HK1.out hqw (Nat.lt_of_lt_of_le HQW.out HS1.out) hg.out hk.out hw2.out)
        clear HB1 HK1 HS1 HQW HB HK hw2 hk hg hqw
        have c0 := HS.out.bx.cell 0
        have c1 := HS.out.bx.cell 1
        have c2 := HS.out.bx.cell 2
        have c3 := HS.out.bx.cell 3
        have c4 := HS.out.bx.cell 4
        have c5 := HS.out.bx.cell 5
        have c6 := HS.out.bx.cell 6
        have c7 := HS.out.bx.cell 7
        have c8 := HS.out.bx.cell 8
        have cl := HS.out.bx.lt
        simp at c0 c1 c2 c3 c4 c5 c6 c7 c8
        go_wp2_with fail
        clear c0 c1 c2 c3 c4 c5 c6 c7 c8 cl
        go_loopw [28] (fun i wr => ∃ j : Nat, i = .int .i64 j ∧ Hid ((j : Int) ≤ b.par) ∧ Hid (VaS w wr q k g (.bool true) 60 b A c (begP j))) (fun i _ => b.par.toNat - (intOf i).toNat)
        case atStart => exact ⟨0, rfl, Lib.hid (by have := HP.out; omega), HS⟩
        case round =>
          obtain ⟨j, rfl, HJ, HVS⟩ := hrel
          by_cases hlt : (j : Int) < b.par
          · have hlj : decide ((j : Int) < b.par) = true := by simpa using hlt
            have hw : IntKind.wrap .i64 ((j : Int) + 1) = (j : Int) + 1 := wrapI (by have := HP.out; omega)
            have HLT := Lib.hid hlt
            clear hlt
            obtain ⟨c0, c1, c2, c3, c4, cl⟩ := HVS.out.ck.cells
            go_wp2_with (at_mapUpdate; refine wpList_update_set _ rfl _ _ _ 58 rfl 4 under58 g _ rfl HVS.out.ck.2 ((j : Int) + 1) rfl rfl ?_; intro w3 hs3 hg3 hz3)
            exact ⟨⟨j + 1, by go_num, Lib.hid (by have := HLT.out; omega), Lib.hid (HVS.out.kept ((KeptK.refl k g wr).grown hg3 (fun i hi => by injection hi with hi; exact .inr (.inl hi.symm))) ⟨(HVS.out.ck.upd hs3 hg3).1, hs3.congr (beg_more j)⟩)⟩, by have := HLT.out; simp [intOf]; omega⟩
          · have hlj : decide ((j : Int) < b.par) = false := by simpa using hlt
            have HS3 := Lib.hid (show VaS w wr q k g (.bool true) 60 b A c (begP b.par) by have e : (j : Int) = b.par := by { have := HJ.out; omega }; rw [← e]; exact HVS.out)
            clear HVS HJ hlt HS
            have c0 := HS3.out.bx.cell 0
            have c1 := HS3.out.bx.cell 1
            have c2 := HS3.out.bx.cell 2
            have c3 := HS3.out.bx.cell 3
            have c4 := HS3.out.bx.cell 4
            have c5 := HS3.out.bx.cell 5
            have c6 := HS3.out.bx.cell 6
            have c7 := HS3.out.bx.cell 7
            have c8 := HS3.out.bx.cell 8
            have cl := HS3.out.bx.lt
            simp at c0 c1 c2 c3 c4 c5 c6 c7 c8
            rw [← hn.out] at c8
            go_wp2_with fail
            clear c0 c1 c2 c3 c4 c5 c6 c7 c8 cl
            go_loopw [41] (fun i wr => ∃ j : Nat, i = .int .i64 j ∧ j ≤ n ∧ Hid (∃ ck, upto b.par b.code j = some ck ∧ VaS w wr q k g (.bool true) 60 b A c ck)) (fun i _ => n - (intOf i).toNat)
            case atStart => exact ⟨0, rfl, Nat.zero_le _, Lib.hid ⟨_, rfl, HS3.out⟩⟩
            case round =>
              obtain ⟨j, rfl, hj, HI⟩ := hrel
              clear HS3
              obtain ⟨ck, hup, hvs⟩ := HI.out
              have HUP := Lib.hid hup
              have HVS := Lib.hid hvs
              clear hup hvs HI
              by_cases hlt : j < n
              · obtain ⟨bb, off, x, rfl, hbb, hx, hcs⟩ := HA.out.at (by rw [← hn.out]; exact hlt)
                have hx6 := hcs.below hbb HVS.out.bl
                obtain ⟨q0, q1, q2, q3, q4, q5⟩ := hx6
                have HX := Lib.hid hx
                have hbz : bb < wr.heap.size := by have := HVS.out.bl.size; omega
                have hlj : decide ((j : Int) < (n : Int)) = true := by simp; omega
                clear hx hcs hbb
                go_upto_region 13 with fail
                have HB0 := Lib.hid (BoxI.new wr x)
                have HR0 := Lib.hid (HVS.out.next (bAlloc wr (.cells #[.int .i64 x.op, .int .i64 x.r, .int .i64 x.a, .int .i64 x.n, .string x.nm, .int .i64 x.ar] 34)))
                generalize hg1 : wr.alloc (.cells #[.int .i64 x.op, .int .i64 x.r, .int .i64 x.a, .int .i64 x.n, .string x.nm, .int .i64 x.ar] 34) = w4 at HB0 HR0 ⊢
                clear q0 q1 q2 q3 q4 q5 hg1 hbz HVS
                obtain ⟨x0, x1, x2, x3, x4, x5⟩ := BoxI.cells HB0.out
                have hwn : IntKind.wrap .i64 ((n : Int) - 1) = (n : Int) - 1 := wrapI (by omega)
                have hf0 : ((j : Int) == 0) = (j == 0) := by rw [Bool.eq_iff_iff]; simp
                have hf1 : ((j : Int) == (n : Int) - 1) = (j + 1 == n) := by rw [Bool.eq_iff_iff]; simp; omega
                go_wp2_with fail
                refine (formed_any x w4).mono ?_
                rintro e w5 ⟨rfl, hb5⟩
                have HR5 := Lib.hid (HR0.out.next hb5)
                have HB5 := Lib.hid (HB0.out.next hb5)
                clear hb5 x0 x1 x2 x3 x4 x5 HR0 HB0
                cases hfo : fo x
                · have HE := Lib.hid (show vaP b = false by rw [HV.out]; exact upto_stop (by rw [← hn.out]; exact hlt) (by rw [upto_step HUP.out HX.out, hfo]; rfl))
                  clear hfo
                  go_wp2_with fail
                  go_ret
                  exact ⟨ret_bool HE.out.symm, HR5.out.bl⟩
                · have HFO := Lib.hid hfo
                  have HOK := Lib.hid (upto_ok HP.out.2 j HUP.out)
                  have HFF := Lib.hid (fof hfo)
                  have HUS := Lib.hid (upto_step HUP.out HX.out)
                  clear hfo
                  obtain ⟨x0, x1, x2, x3, x4, x5⟩ := BoxI.cells HB5.out
                  go_wp2_with fail
                  refine (step_any ck x (j == 0) (j + 1 == n) k g w5 HOK.out HFO.out HFF.out.rl HFF.out.wl (fun r hr => (HFF.out.wr r hr).2) HFF.out.an HR5.out.ck).mono ?_
                  rintro e w6 ⟨rfl, hck, hkp⟩
                  have HKP := Lib.hid hkp
                  have HCK := Lib.hid hck
                  have HUT := Lib.hid (show upto b.par b.code (j + 1) = stepP ck x (j == 0) (j + 1 == n) by rw [HUS.out, if_pos HFO.out, hn.out])
                  clear hck hkp x0 x1 x2 x3 x4 x5 HUS HFF
                  cases hst : stepP ck x (j == 0) (j + 1 == n) with
                  | none =>
                    have HE := Lib.hid (show vaP b = false by rw [HV.out]; exact upto_stop (by rw [← hn.out]; exact hlt) (by rw [HUT.out, hst]))
                    have HBL := Lib.hid (HR5.out.low HKP.out)
                    clear hst
                    go_wp2_with fail
                    go_ret
                    exact ⟨ret_bool HE.out.symm, HBL.out⟩
                  | some c2 =>
                    have HU2 := Lib.hid (show upto b.par b.code (j + 1) = some c2 by rw [HUT.out, hst])
                    have HV2 := Lib.hid (HR5.out.kept HKP.out (HCK.out c2 hst))
                    clear hst
                    go_wp2_with fail
                    exact ⟨⟨j + 1, by go_num, hlt, Lib.hid ⟨_, HU2.out, HV2.out⟩⟩, by simp [intOf]; omega⟩
              · have hlj : decide ((j : Int) < (n : Int)) = false := by simp; omega
                have HE := Lib.hid (show vaP b = true by rw [HV.out, show b.code.length = j by rw [← hn.out]; omega, HUP.out]; rfl)
                go_wp2_with fail
                go_ret
                exact ⟨ret_bool HE.out.symm, HVS.out.bl⟩
      · have q1 : decide ((n : Int) < 1) = false := by rw [hn.out]; simp; omega
        have q2 : decide (131072 < (n : Int)) = true := by rw [hn.out]; simp; omega
        have HE := Lib.hid (vaP_high h2)
        clear hp h1 h2
        go_wp2_with fail
        go_ret
        exact ⟨ret_bool HE.out.symm, HB1.out⟩
    · have q1 : decide ((n : Int) < 1) = true := by rw [hn.out]; simp; omega
      have HE := Lib.hid (vaP_low h1)
      clear hp h1
      go_wp2_with fail
      go_ret
      exact ⟨ret_bool HE.out.symm, HB1.out⟩
end
section
open Go.RowKit

/-- a builder that holds these bytes -/
def BldAt (w : World) (b : Nat) (l : List UInt8) : Prop := Lib.IsBuilder 64 5 b b (Lib.byteCells l) w
theorem BuilderAt.later {p : Value} {bs : List Value} {B b : Nat} {w w' : World} (h : Lib.BuilderAt 64 5 B b p bs w) (hb : Below w.heap.size w w') : Lib.BuilderAt 64 5 B b p bs w' := by
  obtain ⟨h1, v, h2, h3, h4⟩ := h
  exact ⟨h1, v, (hb.block b (Array.getElem?_eq_some_iff.1 h2).1).trans h2, own_next h3 hb, h4⟩
theorem BldAt.next {w w' : World} {b : Nat} {l : List UInt8} (h : BldAt w b l) (hb : Below w.heap.size w w') : BldAt w' b l := by
  rcases h with h | h
  · exact .inl (BuilderAt.later h hb)
  · exact .inr (BuilderAt.later h hb)
theorem BldAt.lt {w : World} {b : Nat} {l : List UInt8} (h : BldAt w b l) : b < w.heap.size := by
  rcases h with ⟨_, v, h2, _⟩ | ⟨_, v, h2, _⟩ <;> exact (Array.getElem?_eq_some_iff.1 h2).1
theorem byte_app (l m : List UInt8) : Lib.byteCells l ++ Lib.strCells (S m) = Lib.byteCells (l ++ m) := by
  unfold Lib.byteCells Lib.strCells
  rw [S_list, List.map_append]
theorem write_any2 (b : Nat) (l m : List UInt8) (w : World) (h : BldAt w b l) (hl : l.length + m.length ≤ 1000000000) :
    Calls Tryz.prog 35 #[.pointer (some ⟨b, 0, none⟩), .string (S m)] w fun e w' => (∃ v, e = .returned v) ∧ BldAt w' b (l ++ m) ∧ Below b w w' :=
  (Tryz.Builder_WriteString b b (Lib.byteCells l) (S m) w h (by rw [S_size]; simp [Lib.byteCells]; omega) (Nat.le_of_lt h.lt)).mono (by
    rintro e w' ⟨rfl, h2, h3⟩
    rw [byte_app] at h2
    exact ⟨⟨_, rfl⟩, .inr h2, h3⟩)
/-- the integers of a block that no check bounds -/
structure RgB (b : Bk) : Prop where
  kn : inR b.kn
  n : ∀ x ∈ b.code, inR x.n
theorem va_head {b : Bk} (h : vaP b = true) : hdP b = true ∧ 1 ≤ b.code.length ∧ b.code.length ≤ 131072 := by
  unfold vaP at h
  simp only [Bool.and_eq_true, decide_eq_true_eq] at h
  exact ⟨h.1.1, h.1.2⟩
theorem va_fo {b : Bk} (h : vaP b = true) : ∀ x ∈ b.code, fo x = true := by
  intro x hx
  obtain ⟨i, hi⟩ := List.mem_iff_getElem?.1 hx
  cases hf : fo x with
  | true => rfl
  | false =>
    have hlt := (List.getElem?_eq_some_iff.1 hi).1
    have h2 : upto b.par b.code (i + 1) = none := by
      show (upto b.par b.code i).bind _ = _
      cases upto b.par b.code i with
      | none => rfl
      | some c => rw [hi, Option.bind_some, Option.bind_some, hf]; rfl
    unfold vaP at h
    simp only [Bool.and_eq_true] at h
    rw [upto_none h2 _ hlt] at h
    cases h.2
theorem key_facts {k n : Int} {s : ByteArray} {a : Int} (h : keyP k n s a = true) : s.size ≤ 100 ∧ (0 ≤ a ∧ a ≤ 8) := by
  by_cases h0 : k = 0
  · subst h0; rw [key0] at h; simp at h; have := nil_size h.2.1; omega
  · by_cases h1 : k = 1
    · subst h1; rw [key1] at h; simp at h; have := nil_size h.1; omega
    · by_cases h2 : k = 2
      · subst h2; rw [key2] at h; simp [nmOk] at h; omega
      · by_cases h3 : k = 3
        · subst h3; rw [key3] at h; simp [nmOk] at h; omega
        · rw [keyN n s a ⟨h0, h1, h2, h3⟩] at h; cases h
structure HdF (b : Bk) : Prop where
  id : inR b.id
  pn : b.pn.size ≤ 1000000
  par : inR b.par
  paux : inR b.paux
  knm : b.knm.size ≤ 1000000
  kar : inR b.kar
  pl : (predL b.pn.data.toList b.par b.paux).length ≤ 450
  kl : inR b.kn → (keyL b.kk b.kn b.knm.data.toList b.kar).length ≤ 450
theorem hd_facts {b : Bk} (h : hdP b = true) : HdF b := by
  unfold hdP at h
  simp only [Bool.and_eq_true, decide_eq_true_eq] at h
  have hp := pd_facts h.2.1
  have hk := key_facts h.2.2
  have hpar : inR b.par := by unfold inR; omega
  have hpaux : inR b.paux := by unfold inR; omega
  have hkar : inR b.kar := by unfold inR; omega
  have q1 := quote_len b.pn.data.toList
  have q2 := quote_len b.knm.data.toList
  have s1 : b.pn.data.toList.length = b.pn.size := Array.length_toList
  have s2 : b.knm.data.toList.length = b.knm.size := Array.length_toList
  have n1 := num_len b.par hpar
  have n2 := num_len b.paux hpaux
  have n3 := num_len b.kar hkar
  refine ⟨by unfold inR; omega, by omega, hpar, hpaux, by omega, hkar, ?_, fun hkn => ?_⟩
  · unfold predL funL
    split <;> simp only [List.length_append, List.length_cons] <;> omega
  · have n4 := num_len b.kn hkn
    unfold keyL funL
    split
    · omega
    · split
      · omega
      · split
        · simp only [List.length_append, List.length_cons]; omega
        · simp
theorem head_len {b : Bk} (h : hdP b = true) (hk : inR b.kn) : (headL b).length ≤ 1000 := by
  have F := hd_facts h
  have h1 := num_len b.id F.id
  have h2 := F.pl
  have h3 := F.kl hk
  unfold headL blockW
  simp only [List.length_append, List.length_cons, List.length_nil]
  omega
theorem lines_len (l : List In) (h : ∀ x ∈ l, fo x = true ∧ inR x.n) : (l.flatMap fun x => lineL x ++ [10]).length ≤ l.length * 1001 := by
  induction l with
  | nil => simp
  | cons x t ih =>
    rw [List.flatMap_cons, List.length_append, List.length_append, List.length_cons]
    have h1 := line_len (h x (by simp)).1 (h x (by simp)).2
    have h2 := ih (fun y hy => h y (by simp [hy]))
    simp only [List.length_cons, List.length_nil]
    omega
theorem textV_bad {b : Bk} (h : vaP b = false) : textV b = ([], 1) := by unfold textV; rw [if_neg (by rw [h]; simp)]
theorem textV_ok {b : Bk} (h : vaP b = true) : textV b = if 16384 < (textL b).length then ([], 2) else (textL b, 0) := by unfold textV; rw [if_pos h]
set_option maxRecDepth 100000 in
set_option maxHeartbeats 4000000 in
theorem text_any (b : Bk) (A : Option Addr) (c : Nat) (w : World) (ha : InsAt w w.heap.size A b.code.length b.code) (hr : RgB b) (h : Env w) :
    Calls Tryz.prog 17 #[b.v A c] w fun e w' => e = .returned (.tuple #[.string (S (textV b).1), .int .i64 (textV b).2]) ∧ Below w.heap.size w w' := by
  have HA := Lib.hid ha
  have HR := Lib.hid hr
  have HE := Lib.hid h
  have hnl := ha.1.2
  clear ha hr h
  obtain ⟨W, HW⟩ : ∃ X, Hid (X = w.alloc (.cells #[.int .i64 b.id, .string b.pn, .int .i64 b.par, .int .i64 b.paux, .int .i64 b.kk, .int .i64 b.kn, .string b.knm, .int .i64 b.kar, .slice A b.code.length c] 28)) := ⟨_, rfl⟩
  obtain ⟨q, hq⟩ : ∃ q, Hid (q = w.heap.size) := ⟨_, rfl⟩
  have HB := Lib.hid (show Below w.heap.size w W by rw [HW.out]; exact bAlloc _ _)
  have HK := Lib.hid (show Blk W q 28 #[.int .i64 b.id, .string b.pn, .int .i64 b.par, .int .i64 b.paux, .int .i64 b.kk, .int .i64 b.kn, .string b.knm, .int .i64 b.kar, .slice A b.code.length c] by rw [HW.out, hq.out]; exact Blk.new _ _ _)
  have hqw : w.heap.size ≤ q := by rw [hq.out]; exact Nat.le_refl _
  go_enter Tryz.func17, Tryz.ntmps17
  go_upto_region 1 with fail
  rw [← HW.out, ← hq.out]
  clear HW hq
  have HI0 := Lib.hid (HA.out.below HB.out)
  have c0 := HK.out.cell 0
  have c1 := HK.out.cell 1
  have c2 := HK.out.cell 2
  have c3 := HK.out.cell 3
  have c4 := HK.out.cell 4
  have c5 := HK.out.cell 5
  have c6 := HK.out.cell 6
  have c7 := HK.out.cell 7
  have c8 := HK.out.cell 8
  have cl := HK.out.lt
  simp at c0 c1 c2 c3 c4 c5 c6 c7 c8
  go_wp2_with fail
  refine (valid_any b A c W (HI0.out.more HB.out.size)).mono ?_
  rintro e w1 ⟨rfl, hb⟩
  have HB1 := Lib.hid (bNext HB.out hb)
  have HK1 := Lib.hid (HK.out.below hb HK.out.lt)
  clear hb c0 c1 c2 c3 c4 c5 c6 c7 c8 cl HB HK HI0
  cases hv : vaP b
  · have HT := Lib.hid (textV_bad hv)
    clear hv
    go_wp2_with fail
    go_ret2
    rw [HT.out]
    exact ⟨rfl, HB1.out⟩
  · have HV := Lib.hid (va_head hv)
    have HFO := Lib.hid (va_fo hv)
    have HT := Lib.hid (textV_ok hv)
    have HD := Lib.hid (hd_facts HV.out.1)
    clear hv
    go_upto_region 4 with fail
    obtain ⟨bb, hbb⟩ : ∃ q, Hid (q = w1.heap.size) := ⟨_, rfl⟩
    obtain ⟨w2, hw2⟩ : ∃ X, Hid (X = w1.alloc (.cells #[.pointer none, .slice none 0 0] 64)) := ⟨_, rfl⟩
    have HBL := Lib.hid (show BldAt w2 bb [] by rw [hw2.out, hbb.out]; exact Lib.fresh_isBuilder 64 5 w1)
    have HB2 := Lib.hid (show Below w.heap.size w w2 by rw [hw2.out]; exact HB1.out.alloc HB1.out.size _)
    have HK2 := Lib.hid (show Blk w2 q 28 #[.int .i64 b.id, .string b.pn, .int .i64 b.par, .int .i64 b.paux, .int .i64 b.kk, .int .i64 b.kn, .string b.knm, .int .i64 b.kar, .slice A b.code.length c] by rw [hw2.out]; exact HK1.out.alloc _)
    have hqb : q < bb := by rw [hbb.out]; exact HK1.out.lt
    have hwb : w.heap.size ≤ bb := by rw [hbb.out]; exact HB1.out.size
    rw [← hw2.out, ← hbb.out]
    clear hw2 hbb HB1 HK1
    obtain ⟨D, hD⟩ : ∃ X, Hid (X = w2.drew) := ⟨_, rfl⟩
    have hd : Below w2.heap.size w2 D := by rw [hD.out]; exact bDrewN (Below.refl _ _) 1
    refine wp_region_N (fun w' => Below bb w2 w') (fun _ => true) (by kernel_rfl) ?_
    rw [← hD.out]
    have hb2 : bb ≤ w2.heap.size := Nat.le_of_lt HBL.out.lt
    have hS0 := hd.mono hb2
    clear hD
    refine wpAnyN_take (i := 0) (v := ?v1) rfl (by kernel_rfl) (by kernel_rfl) (by kernel_rfl) (by kernel_rfl) (fun _ _ _ h => h) (Or.inl ⟨by rfl, ?hy1⟩) (by assumption) ?_
    case hy1 => intro w hSw; (try dsimp only at hSw); go_simp; try with_reducible rfl
    simp only [Act.put, List.getElem_toArray, List.getElem_cons_zero, List.setIfInBounds_toArray, List.set_cons_zero, List.set_cons_succ]
    refine wpAnyN_take (i := 1) (v := ?v2) rfl (by kernel_rfl) (by kernel_rfl) (by kernel_rfl) (by kernel_rfl) (fun _ _ _ h => h) (Or.inl ⟨by rfl, ?hy2⟩) (by assumption) ?_
    case hy2 => intro w hSw; have hh := HK2.out.below hSw hqb; have c0 := hh.cell 0; have c1 := hh.cell 1; have c2 := hh.cell 2; have c3 := hh.cell 3; have c4 := hh.cell 4; have c5 := hh.cell 5; have c6 := hh.cell 6; have c7 := hh.cell 7; have cl := hh.lt; simp at c0 c1 c2 c3 c4 c5 c6 c7; clear hh; go_simp; try with_reducible rfl
    simp only [Act.put, List.getElem_toArray, List.getElem_cons_zero, List.getElem_cons_succ, List.setIfInBounds_toArray, List.set_cons_zero, List.set_cons_succ]
    refine wpAnyN_take (i := 5) (v := ?v3) rfl (by kernel_rfl) (by kernel_rfl) (by kernel_rfl) (by kernel_rfl) (fun _ _ _ h => h) (Or.inl ⟨by rfl, ?hy3⟩) (by assumption) ?_
    case hy3 => intro w hSw; (try dsimp only at hSw); go_simp; try with_reducible rfl
    simp only [Act.put, List.getElem_toArray, List.getElem_cons_zero, List.getElem_cons_succ, List.setIfInBounds_toArray, List.set_cons_zero, List.set_cons_succ]
    refine wpAnyN_take (i := 6) (v := ?v4) rfl (by kernel_rfl) (by kernel_rfl) (by kernel_rfl) (by kernel_rfl) (fun _ _ _ h => h) (Or.inl ⟨by rfl, ?hy4⟩) (by assumption) ?_
    case hy4 => intro w hSw; have hh := HK2.out.below hSw hqb; have c0 := hh.cell 0; have c1 := hh.cell 1; have c2 := hh.cell 2; have c3 := hh.cell 3; have c4 := hh.cell 4; have c5 := hh.cell 5; have c6 := hh.cell 6; have c7 := hh.cell 7; have cl := hh.lt; simp at c0 c1 c2 c3 c4 c5 c6 c7; clear hh; go_simp; try with_reducible rfl
    simp only [Act.put, List.getElem_toArray, List.getElem_cons_zero, List.getElem_cons_succ, List.setIfInBounds_toArray, List.set_cons_zero, List.set_cons_succ]
    refine wpAnyN_take (i := 10) (v := ?v5) rfl (by kernel_rfl) (by kernel_rfl) (by kernel_rfl) (by kernel_rfl) (fun _ _ _ h => h) (Or.inl ⟨by rfl, ?hy5⟩) (by assumption) ?_
    case hy5 => intro w hSw; (try dsimp only at hSw); go_simp; try with_reducible rfl
    simp only [Act.put, List.getElem_toArray, List.getElem_cons_zero, List.getElem_cons_succ, List.setIfInBounds_toArray, List.set_cons_zero, List.set_cons_succ]
    refine wpAnyN_take (i := 11) (v := ?v6) rfl (by kernel_rfl) (by kernel_rfl) (by kernel_rfl) (by kernel_rfl) (fun _ _ _ h => h) (Or.inl ⟨by rfl, ?hy6⟩) (by assumption) ?_
    case hy6 => intro w hSw; have hh := HK2.out.below hSw hqb; have c0 := hh.cell 0; have c1 := hh.cell 1; have c2 := hh.cell 2; have c3 := hh.cell 3; have c4 := hh.cell 4; have c5 := hh.cell 5; have c6 := hh.cell 6; have c7 := hh.cell 7; have cl := hh.lt; simp at c0 c1 c2 c3 c4 c5 c6 c7; clear hh; go_simp; try with_reducible rfl
    simp only [Act.put, List.getElem_toArray, List.getElem_cons_zero, List.getElem_cons_succ, List.setIfInBounds_toArray, List.set_cons_zero, List.set_cons_succ]
    refine wpAnyN_one (i := 2) (by kernel_rfl) rfl (fun K hK => ?_)
    simp only [List.getElem_toArray, List.getElem_cons_zero, List.getElem_cons_succ]
    go_simp
    obtain ⟨y0, hy0⟩ : ∃ y, Hid (y = numL b.id) := ⟨_, rfl⟩
    obtain ⟨y1, hy1⟩ : ∃ y, Hid (y = predL b.pn.data.toList b.par b.paux) := ⟨_, rfl⟩
    obtain ⟨y2, hy2⟩ : ∃ y, Hid (y = keyL b.kk b.kn b.knm.data.toList b.kar) := ⟨_, rfl⟩
    have hz0 : (S y0).size ≤ 21 := by rw [S_size, hy0.out]; exact num_len _ HD.out.id
    have hz1 : (S y1).size ≤ 450 := by rw [S_size, hy1.out]; exact HD.out.pl
    have hz2 : (S y2).size ≤ 450 := by rw [S_size, hy2.out]; exact HD.out.kl HR.out.kn
    refine (fmt_any b.id D HD.out.id (HE.out.next (bNext HB2.out hd))).mono ?_
    rintro e w3 ⟨rfl, hb3⟩
    rw [← hy0.out]
    have hk3 : Below w2.heap.size w2 w3 := bNext hd hb3
    have hS3 := hk3.mono hb2
    refine hK _ _ (fun _ => hS3) ?_
    have HE3 := Lib.hid (HE.out.next (bNext HB2.out hk3))
    clear hb3
    (try simp only [Act.put, List.setIfInBounds_toArray, List.set_cons_zero, List.set_cons_succ])
    refine wpAnyN_take (i := 3) (v := .string ((⟨#[98, 108, 111, 99, 107, 32]⟩ : ByteArray) ++ S y0)) rfl (by kernel_rfl) (by kernel_rfl) (by kernel_rfl) (by kernel_rfl) (fun _ _ _ h => h) (Or.inl ⟨by rfl, ?hv3⟩) (by assumption) ?_
    case hv3 => intro w hSw; go_simp; omega
    simp only [Act.put, List.getElem_toArray, List.getElem_cons_zero, List.getElem_cons_succ, List.setIfInBounds_toArray, List.set_cons_zero, List.set_cons_succ]
    refine wpAnyN_take (i := 4) (v := .string ((⟨#[98, 108, 111, 99, 107, 32]⟩ : ByteArray) ++ S y0 ++ ⟨#[32]⟩)) rfl (by kernel_rfl) (by kernel_rfl) (by kernel_rfl) (by kernel_rfl) (fun _ _ _ h => h) (Or.inl ⟨by rfl, ?hv4⟩) (by assumption) ?_
    case hv4 => intro w hSw; go_simp; omega
    simp only [Act.put, List.getElem_toArray, List.getElem_cons_zero, List.getElem_cons_succ, List.setIfInBounds_toArray, List.set_cons_zero, List.set_cons_succ]
    refine wpAnyN_one (i := 7) (by kernel_rfl) rfl (fun K hK => ?_)
    simp only [List.getElem_toArray, List.getElem_cons_zero, List.getElem_cons_succ]
    go_simp
    refine (predText_any b.pn b.par b.paux w3 HD.out.pn HD.out.par HD.out.paux HE3.out).mono ?_
    rintro e w4 ⟨rfl, hb4⟩
    rw [← hy1.out]
    have hk4 : Below w2.heap.size w2 w4 := bNext hk3 hb4
    have hS4 := hk4.mono hb2
    refine hK _ _ (fun _ => hS4) ?_
    have HE4 := Lib.hid (HE.out.next (bNext HB2.out hk4))
    clear hb4
    (try simp only [Act.put, List.setIfInBounds_toArray, List.set_cons_zero, List.set_cons_succ])
    refine wpAnyN_take (i := 8) (v := .string ((⟨#[98, 108, 111, 99, 107, 32]⟩ : ByteArray) ++ S y0 ++ ⟨#[32]⟩ ++ S y1)) rfl (by kernel_rfl) (by kernel_rfl) (by kernel_rfl) (by kernel_rfl) (fun _ _ _ h => h) (Or.inl ⟨by rfl, ?hv8⟩) (by assumption) ?_
    case hv8 => intro w hSw; go_simp; omega
    simp only [Act.put, List.getElem_toArray, List.getElem_cons_zero, List.getElem_cons_succ, List.setIfInBounds_toArray, List.set_cons_zero, List.set_cons_succ]
    refine wpAnyN_take (i := 9) (v := .string ((⟨#[98, 108, 111, 99, 107, 32]⟩ : ByteArray) ++ S y0 ++ ⟨#[32]⟩ ++ S y1 ++ ⟨#[32]⟩)) rfl (by kernel_rfl) (by kernel_rfl) (by kernel_rfl) (by kernel_rfl) (fun _ _ _ h => h) (Or.inl ⟨by rfl, ?hv9⟩) (by assumption) ?_
    case hv9 => intro w hSw; go_simp; omega
    simp only [Act.put, List.getElem_toArray, List.getElem_cons_zero, List.getElem_cons_succ, List.setIfInBounds_toArray, List.set_cons_zero, List.set_cons_succ]
    refine wpAnyN_one (i := 12) (by kernel_rfl) rfl (fun K hK => ?_)
    simp only [List.getElem_toArray, List.getElem_cons_zero, List.getElem_cons_succ]
    go_simp
    refine (keyText_any b.kk b.kn b.knm b.kar w4 HD.out.knm HD.out.kar HR.out.kn HE4.out).mono ?_
    rintro e w5 ⟨rfl, hb5⟩
    rw [← hy2.out]
    have hk5 : Below w2.heap.size w2 w5 := bNext hk4 hb5
    have hS5 := hk5.mono hb2
    refine hK _ _ (fun _ => hS5) ?_
    clear hb5
    (try simp only [Act.put, List.setIfInBounds_toArray, List.set_cons_zero, List.set_cons_succ])
    refine wpAnyN_take (i := 13) (v := .string ((⟨#[98, 108, 111, 99, 107, 32]⟩ : ByteArray) ++ S y0 ++ ⟨#[32]⟩ ++ S y1 ++ ⟨#[32]⟩ ++ S y2)) rfl (by kernel_rfl) (by kernel_rfl) (by kernel_rfl) (by kernel_rfl) (fun _ _ _ h => h) (Or.inl ⟨by rfl, ?hv13⟩) (by assumption) ?_
    case hv13 => intro w hSw; go_simp; omega
    simp only [Act.put, List.getElem_toArray, List.getElem_cons_zero, List.getElem_cons_succ, List.setIfInBounds_toArray, List.set_cons_zero, List.set_cons_succ]
    refine wpAnyN_take (i := 14) (v := .string ((⟨#[98, 108, 111, 99, 107, 32]⟩ : ByteArray) ++ S y0 ++ ⟨#[32]⟩ ++ S y1 ++ ⟨#[32]⟩ ++ S y2 ++ ⟨#[10]⟩)) rfl (by kernel_rfl) (by kernel_rfl) (by kernel_rfl) (by kernel_rfl) (fun _ _ _ h => h) (Or.inl ⟨by rfl, ?hv14⟩) (by assumption) ?_
    case hv14 => intro w hSw; go_simp; omega
    simp only [Act.put, List.getElem_toArray, List.getElem_cons_zero, List.getElem_cons_succ, List.setIfInBounds_toArray, List.set_cons_zero, List.set_cons_succ]
    have HST := Lib.hid (show (⟨#[98, 108, 111, 99, 107, 32]⟩ : ByteArray) ++ S y0 ++ ⟨#[32]⟩ ++ S y1 ++ ⟨#[32]⟩ ++ S y2 ++ ⟨#[10]⟩ = S (headL b ++ [10]) by
      rw [show (⟨#[98, 108, 111, 99, 107, 32]⟩ : ByteArray) = S blockW from rfl, show (⟨#[32]⟩ : ByteArray) = S [32] from rfl, show (⟨#[10]⟩ : ByteArray) = S [10] from rfl]
      simp only [S_app]
      rw [hy0.out, hy1.out, hy2.out]
      unfold headL
      simp)
    refine wpAnyN_one (i := 15) (by kernel_rfl) rfl (fun K hK => ?_)
    simp only [List.getElem_toArray, List.getElem_cons_zero, List.getElem_cons_succ]
    go_simp
    rw [HST.out]
    have HL5 := Lib.hid (HBL.out.next hk5)
    have HLN := Lib.hid (head_len HV.out.1 HR.out.kn)
    refine (write_any2 bb [] (headL b ++ [10]) w5 HL5.out (by have := HLN.out; simp; omega)).mono ?_
    rintro e w6 ⟨⟨v, rfl⟩, hbl, hb6⟩
    have hBw5 := bNext HB2.out hk5
    have HK6 := Lib.hid (show Blk w6 q 28 #[.int .i64 b.id, .string b.pn, .int .i64 b.par, .int .i64 b.paux, .int .i64 b.kk, .int .i64 b.kn, .string b.knm, .int .i64 b.kar, .slice A b.code.length c] from (hb6.block q hqb).trans (BlkNext HK2.out hk5))
    have HB6 := Lib.hid (hBw5.trans (hb6.mono hwb))
    have HBL6 := Lib.hid (show BldAt w6 bb (headL b ++ [10]) from hbl)
    have hS6 : Below bb w2 w6 := (hk5.mono hb2).trans hb6
    refine hK _ _ (fun _ => hS6) ?_
    clear hbl hb6 hBw5 hk3 hk4 hk5 hS0 hS3 hS4 hS5 hd HE3 HE4 HL5 HK2 HB2 HBL
    (try simp only [Act.put, List.setIfInBounds_toArray, List.set_cons_zero, List.set_cons_succ])
    refine wpAnyN_done (by kernel_rfl) ?_ _
    clear hS6 hz0 hz1 hz2 hb2
    have c0 := HK6.out.cell 0
    have c1 := HK6.out.cell 1
    have c2 := HK6.out.cell 2
    have c3 := HK6.out.cell 3
    have c4 := HK6.out.cell 4
    have c5 := HK6.out.cell 5
    have c6 := HK6.out.cell 6
    have c7 := HK6.out.cell 7
    have c8 := HK6.out.cell 8
    have cl := HK6.out.lt
    simp at c0 c1 c2 c3 c4 c5 c6 c7 c8
    obtain ⟨n, hn⟩ : ∃ n, Hid (n = b.code.length) := ⟨_, rfl⟩
    rw [← hn.out] at c8 hnl
    go_wp2_with fail
    clear c0 c1 c2 c3 c4 c5 c6 c7 c8 cl
    go_loopw [29] (fun i wr => ∃ j : Nat, i = .int .i64 j ∧ j ≤ n ∧ Hid (BldAt wr bb (headL b ++ [10] ++ (b.code.take j).flatMap fun x => lineL x ++ [10])) ∧ Hid (Below w.heap.size w wr)) (fun i _ => n - (intOf i).toNat)
    case atStart => exact ⟨0, rfl, Nat.zero_le _, Lib.hid (by simpa using HBL6.out), HB6⟩
    case round =>
      obtain ⟨j, rfl, hj, HBR, HBW⟩ := hrel
      have hlen : (headL b ++ [10] ++ (b.code.take j).flatMap fun x => lineL x ++ [10]).length ≤ 1001 + j * 1001 := by
        have h1 := HLN.out
        have h2 := lines_len (b.code.take j) (fun x hx => ⟨HFO.out x (List.mem_of_mem_take hx), HR.out.n x (List.mem_of_mem_take hx)⟩)
        have h3 : (b.code.take j).length ≤ j := List.length_take_le _ _
        simp only [List.length_append, List.length_cons, List.length_nil] at h2 ⊢
        have h4 : (b.code.take j).length * 1001 ≤ j * 1001 := Nat.mul_le_mul_right _ h3
        omega
      have HLE := Lib.hid hlen
      have HN2 := Lib.hid (show n ≤ 131072 by rw [hn.out]; exact HV.out.2.2)
      clear hlen
      by_cases hlt : j < n
      · obtain ⟨cb, off, x, rfl, hcb, hx, hcs⟩ := HA.out.at (by rw [← hn.out]; exact hlt)
        have hx6 := hcs.below hcb HBW.out
        obtain ⟨q0, q1, q2, q3, q4, q5⟩ := hx6
        have hbz : cb < wr.heap.size := by have := HBW.out.size; omega
        have hlj : decide ((j : Int) < (n : Int)) = true := by simp; omega
        have HSN := Lib.hid (show (headL b ++ [10] ++ (b.code.take j).flatMap fun x => lineL x ++ [10]) ++ (lineL x ++ [10]) = headL b ++ [10] ++ (b.code.take (j + 1)).flatMap fun x => lineL x ++ [10] by
          rw [List.take_add_one, hx]; simp)
        have HXF := Lib.hid (HFO.out x (List.mem_of_getElem? hx))
        have HXN := Lib.hid (HR.out.n x (List.mem_of_getElem? hx))
        clear hx hcs hcb
        generalize (headL b ++ [10] ++ (b.code.take j).flatMap fun x => lineL x ++ [10]) = l at HBR HSN HLE
        go_upto_region 8 with fail
        have HB0 := Lib.hid (BoxI.new wr x)
        have HR0 := Lib.hid (HBR.out.next (bAlloc wr (.cells #[.int .i64 x.op, .int .i64 x.r, .int .i64 x.a, .int .i64 x.n, .string x.nm, .int .i64 x.ar] 34)))
        have HW0 := Lib.hid (bNext HBW.out (bAlloc wr (.cells #[.int .i64 x.op, .int .i64 x.r, .int .i64 x.a, .int .i64 x.n, .string x.nm, .int .i64 x.ar] 34)))
        generalize hg1 : wr.alloc (.cells #[.int .i64 x.op, .int .i64 x.r, .int .i64 x.a, .int .i64 x.n, .string x.nm, .int .i64 x.ar] 34) = w7 at HB0 HR0 HW0 ⊢
        clear q0 q1 q2 q3 q4 q5 hg1 hbz HBR HBW
        obtain ⟨x0, x1, x2, x3, x4, x5⟩ := BoxI.cells HB0.out
        go_wp2_with fail
        refine (lineText_any x w7 HXF.out HXN.out (HE.out.next HW0.out)).mono ?_
        rintro e w8 ⟨rfl, hb8⟩
        have HR8 := Lib.hid (HR0.out.next hb8)
        have HW8 := Lib.hid (bNext HW0.out hb8)
        have hls : (S (lineL x)).size ≤ 1000 := by rw [S_size]; exact line_len HXF.out HXN.out
        clear hb8 x0 x1 x2 x3 x4 x5
        go_wp2_with fail
        rw [show S (lineL x) ++ (⟨#[10]⟩ : ByteArray) = S (lineL x ++ [10]) by rw [show (⟨#[10]⟩ : ByteArray) = S [10] from rfl, S_app]]
        refine (write_any2 bb l (lineL x ++ [10]) w8 HR8.out (by have h1 := HLE.out; have h2 := HN2.out; rw [S_size] at hls; simp only [List.length_append, List.length_cons, List.length_nil]; omega)).mono ?_
        rintro e w9 ⟨⟨v, rfl⟩, hbl, hb9⟩
        have HR9 := Lib.hid (show BldAt w9 bb (headL b ++ [10] ++ (b.code.take (j + 1)).flatMap fun x => lineL x ++ [10]) by rw [← HSN.out]; exact hbl)
        have HW9 := Lib.hid (HW8.out.trans (hb9.mono hwb))
        clear hbl hb9 hls
        go_wp2_with fail
        exact ⟨⟨j + 1, by go_num, hlt, HR9, HW9⟩, by simp [intOf]; omega⟩
      · have hlj : decide ((j : Int) < (n : Int)) = false := by simp; omega
        have HTX := Lib.hid (show headL b ++ [10] ++ ((b.code.take j).flatMap fun x => lineL x ++ [10]) = textL b by
          rw [List.take_of_length_le (by rw [← hn.out]; omega)]
          unfold textL
          simp)
        rw [HTX.out] at HBR HLE
        go_wp2_with fail
        refine (Tryz.Builder_Len bb bb _ wr HBR.out).mono ?_
        rintro e w7 ⟨rfl, rfl⟩
        rw [show ((Lib.byteCells (textL b)).length : Int) = ((textL b).length : Int) by simp [Lib.byteCells]]
        by_cases hlong : 16384 < (textL b).length
        · have q1 : decide (16384 < ((textL b).length : Int)) = true := by simp; omega
          have HT2 := Lib.hid (show textV b = ([], 2) by rw [HT.out, if_pos hlong])
          clear hlong
          go_wp2_with fail
          go_ret2
          rw [HT2.out]
          exact ⟨rfl, HBW.out⟩
        · have q1 : decide (16384 < ((textL b).length : Int)) = false := by simp; omega
          have HT2 := Lib.hid (show textV b = (textL b, 0) by rw [HT.out, if_neg hlong])
          clear hlong
          go_wp2_with fail
          refine (Tryz.Builder_String_any bb bb (textL b) w7 HBR.out (Nat.le_of_lt HBR.out.lt)).mono ?_
          rintro e w8 ⟨rfl, hb8⟩
          have HW8 := Lib.hid (HBW.out.trans (hb8.mono hwb))
          clear hb8
          go_wp2_with fail
          go_ret2
          rw [HT2.out]
          exact ⟨rfl, HW8.out⟩
end
end Go.Proofs.YtbipeakinmbdiaaGreatDoor
