/-
  Walks: the reference's Assign, Need; RegsAssign.
-/
import Derived.Test.YteffpeokialeiaaDm
import Derived.Test.YteffpeokialeiaaAx
import Derived.Test.YteffpeokialeiaaDi
import Derived.Test.YteffpeokialeiaaCe
import Derived.Outline
namespace Go.Proofs.Yteffpeokialeiaa
open Go.RowKit

theorem ren_snoc {l : List In} {k : Nat} {x : In} (h : l[k]? = some x) (ts : List Tm) : (l.take (k + 1)).map (renT ts) = (l.take k).map (renT ts) ++ [renT ts x] := by
  rw [List.take_add_one, h]; simp
theorem from_len {la : Int → Nat} {base : Int} : ∀ (l : List In) (k : Nat) (ts : List Tm), (numFrom la base k (segOf l) ts).length ≤ ts.length + 2 * l.length
  | [], _, _ => Nat.le_refl _
  | x :: l, k, ts => by
    have fl : ∀ (L : List Int) (ts : List Tm), (L.foldl (numStep la base k (wrOf x)) ts).length ≤ ts.length + L.length := fun L => by
      induction L with
      | nil => intro ts; simp
      | cons z L ih =>
        intro ts
        rw [List.foldl_cons]
        have h1 := ih (numStep la base k (wrOf x) ts z)
        have h2 : (numStep la base k (wrOf x) ts z).length ≤ ts.length + 1 := by
          unfold numStep
          split <;> simp
        simp only [List.length_cons]
        omega
    have h1 := from_len (la := la) (base := base) l (k + 1) ((wrOf x).foldl (numStep la base k (wrOf x)) ts)
    have h2 := fl (wrOf x) ts
    have h3 := wr_len2 x
    show (numFrom la base (k + 1) (segOf l) ((wrOf x).foldl (numStep la base k (wrOf x)) ts)).length ≤ _
    simp only [List.length_cons]
    omega
theorem ts_le (l : List In) (base : Int) {n : Nat} (hl : l.length = n) (hn : n ≤ 60) : (tsOf l base).length ≤ 1000000 := by
  have := from_len (la := laOf l base) (base := base) l 0 []
  unfold tsOf
  simp at this
  omega
theorem gP_succ2 (l : List In) (base : Int) (k : Nat) : gP l base (k + 1) = if gP l base k < usedP l base k then usedP l base k else gP l base k := by
  show max _ _ = _
  rw [Int.max_def]
  split <;> split <;> omega
theorem assign_len60 (l : List In) (base : Int) (h : l.length ≤ 60) : (assignP l base).length ≤ 60 := by
  unfold assignP
  split
  · rename_i hv; rw [allocP_eq hv]; simpa using h
  · simp
set_option maxRecDepth 100000 in
set_option maxHeartbeats 1000000 in
theorem Assign_any (A : Option Addr) (n c : Nat) (l : List In) (base : Int) (w : World) (ha : InsAt w w.heap.size A n l) (hn : n ≤ 60) :
    Calls Try.prog 17 #[.slice A n c, .int .i64 base] w (RetAs w (assignP l base) (errP l base)) := by
  have HA := Lib.hid ha
  obtain ⟨j23, hj1, hj2, hj3, hj4⟩ := info_parts info23
  have HJ3 := Lib.hid hj3
  clear ha hj3
  go_enter Try.func17, Try.ntmps17
  go_wp2_with fail
  refine (Valid_any A n c l base w HA.out hn).mono ?_
  rintro e w1 ⟨rfl, hb⟩
  have HB := Lib.hid hb
  have HA1 := Lib.hid (HA.out.next hb)
  clear hb
  cases hv : validP l base with
  | false =>
    have HV := Lib.hid hv
    clear hv
    go_wp2_with fail
    go_ret2
    refine ⟨.slice none 0 0, by unfold errP; rw [HV.out]; rfl, ?_⟩
    unfold assignP; rw [HV.out]
    exact ⟨⟨rfl, .inl ⟨rfl, rfl⟩⟩, HB.out⟩
  | true =>
    have HV := Lib.hid hv
    obtain ⟨b0, b1⟩ := valid_base hv
    clear hv
    go_wp2_with fail
    refine (numbers_any A n c l base w1 HA1.out hn b0 b1).mono ?_
    rintro e w2 ⟨v2, rfl, ho, hb2⟩
    obtain ⟨A6, c6, rfl, _⟩ := own_form ho
    have HT := Lib.hid (own_tms ho (ts_le l base HA.out.len hn))
    have HB2 := Lib.hid (bNext HB.out hb2)
    have HA2 := Lib.hid (HA1.out.next hb2)
    clear ho hb2
    generalize hts : tsOf l base = ts at HT
    have HTS := Lib.hid hts
    clear hts
    go_wp2_with fail
    go_loopw [7, 8] (fun vo i wr => ∃ k : Nat, i = .int .i64 k ∧ k ≤ n ∧ Hid (wr.ownsRow w2.heap.size 23 6 vo k (aCs ((l.take k).map (renT ts))) ∧ Below w2.heap.size w2 wr)) (fun _ i _ => n - (intOf i).toNat)
    case atStart => exact ⟨0, rfl, Nat.zero_le _, Lib.hid ⟨⟨rfl, .inl ⟨rfl, rfl⟩⟩, Below.refl _ _⟩⟩
    case round =>
      obtain ⟨k, rfl, hk, HO⟩ := hrel
      by_cases hlt : k < n
      · obtain ⟨b, off, x, rfl, hbb, hx, hcs⟩ := HA2.out.at hlt
        obtain ⟨q0, q1, q2, q3, q4, q5⟩ := hcs.below hbb HO.out.2
        have HX := Lib.hid (ren_snoc hx ts)
        have hbz : b < wr.heap.size := by have := HO.out.2.size; omega
        have HTW := Lib.hid ((HT.out.below HO.out.2).more HO.out.2.size)
        clear hcs hx
        go_wp2_with fail
        refine (number_any A6 ts.length c6 ts x.r _ (HTW.out.next (bAlloc _ _))).mono ?_
        rintro e w3 ⟨rfl, rfl⟩
        go_wp2_with fail
        refine (number_any A6 ts.length c6 ts x.a _ (HTW.out.next (bAlloc _ _))).mono ?_
        rintro e w3 ⟨rfl, rfl⟩
        go_wp2_with (at_builtin; refine wpList_append_own_at _ rfl (.tmp 37) (.tmp 39) 27 rfl w2.heap.size 23 j23 (.agg #[.int .i64 0, .int .i64 0, .int .i64 0, .int .i64 0, .string ⟨#[]⟩, .int .i64 0]) 6 56 Try.underlying27 hj1 hj2 HJ3.out hj4 rfl (by decide) _ _ _ rfl ((HO.out.1.alloc _).alloc _) ⟨wr.heap.size + 1, 0, none⟩ 1 1 (aCs [⟨x.op, nm ts x.r, nm ts x.a, x.n, x.nm, x.ar⟩]) rfl rfl ?s1 ?s2 ?s3 ?s4 ?s5 ?_)
        case s1 => first | exact row_news2 _ _ _ | exact fun _ _ h => h
        case s2 => exact aCs_one _
        case s3 => unfold maxLen; omega
        case s4 => omega
        case s5 => have := HO.out.2.size; simp; omega
        intro vn w8 ho8 hg8 _ _
        have HO8 : Hid (w8.ownsRow w2.heap.size 23 6 vn (k + 1) (aCs ((l.take (k + 1)).map (renT ts))) ∧ Below w2.heap.size w2 w8) := Lib.hid ⟨by rw [HX.out, List.map_take, aCs_app]; exact ho8,
          ((HO.out.2.alloc HO.out.2.size _).alloc (by have := HO.out.2.size; simp; omega) _).grown hg8 (by have := HO.out.2.size; simp; omega) (fun g e => (own_lt HO.out.1 e).1)⟩
        clear ho8 hg8
        go_wp2_with fail
        exact ⟨⟨k + 1, by go_num, by omega, HO8⟩, by simp [intOf]; omega⟩
      · have HE : Hid (l.take k = l) := Lib.hid (List.take_of_length_le (by have := HA.out.len; omega))
        have HK : Hid (l.length = k) := Lib.hid (by have := HA.out.len; omega)
        have HP : Hid (assignP l base = l.map (renT ts)) := Lib.hid (by unfold assignP; rw [HV.out, if_pos rfl, allocP_eq HV.out, HTS.out])
        go_wp2_with fail
        go_ret2
        refine ⟨_, by unfold errP; rw [HV.out]; rfl, ?_⟩
        unfold OwnA
        rw [HP.out, List.length_map, HK.out]
        have := HO.out
        rw [HE.out] at this
        exact ⟨own_base this.1 HB2.out.size, HB2.out.trans (this.2.mono HB2.out.size)⟩
def cntP (ts : List Tm) (k : Nat) (wr : List Int) (j : Nat) : Nat := ((ts.take j).filter (Tm.used · k wr)).length
theorem cnt_snoc {ts : List Tm} {j : Nat} {t : Tm} (h : ts[j]? = some t) (k : Nat) (wr : List Int) : cntP ts k wr (j + 1) = if t.used k wr then cntP ts k wr j + 1 else cntP ts k wr j := by
  unfold cntP
  rw [List.take_add_one, h]
  cases hu : t.used k wr <;> simp [hu]
theorem cnt_le (ts : List Tm) (k : Nat) (wr : List Int) (j : Nat) : cntP ts k wr j ≤ j := by
  unfold cntP
  exact Nat.le_trans (List.length_filter_le _ _) (by rw [List.length_take]; omega)
set_option maxRecDepth 100000 in
set_option maxHeartbeats 1000000 in
theorem Need_any (A : Option Addr) (n c : Nat) (l : List In) (base : Int) (w : World) (ha : InsAt w w.heap.size A n l) (hn : n ≤ 60) :
    Calls Try.prog 20 #[.slice A n c, .int .i64 base] w fun e w' => e = .returned (.int .i64 (needP l base)) ∧ Below w.heap.size w w' := by
  have HA := Lib.hid ha
  clear ha
  go_enter Try.func20, Try.ntmps20
  go_wp2_with fail
  refine (Valid_any A n c l base w HA.out hn).mono ?_
  rintro e w1 ⟨rfl, hb⟩
  have HB := Lib.hid hb
  have HA1 := Lib.hid (HA.out.next hb)
  clear hb
  cases hv : validP l base with
  | false =>
    have HV := Lib.hid hv
    clear hv
    go_wp2_with fail
    go_ret
    exact ⟨by unfold needP; rw [HV.out]; rfl, HB.out⟩
  | true =>
    have HV := Lib.hid hv
    obtain ⟨b0, b1⟩ := valid_base hv
    clear hv
    go_wp2_with fail
    refine (numbers_any A n c l base w1 HA1.out hn b0 b1).mono ?_
    rintro e w2 ⟨v2, rfl, ho, hb2⟩
    obtain ⟨A6, c6, rfl, _⟩ := own_form ho
    have hle := ts_le l base HA.out.len hn
    have HT := Lib.hid (own_tms ho hle)
    have HB2 := Lib.hid (bNext HB.out hb2)
    have HA2 := Lib.hid (HA1.out.next hb2)
    have HNN := Lib.hid (fun k (hk : k ≤ n) => great_le HV.out (by have := HA.out.len; omega) k (by have := HA.out.len; omega))
    have HUC : Hid (∀ {k : Nat} {x : In}, l[k]? = some x → usedP l base k = (cntP (tsOf l base) k (wrOf x) (tsOf l base).length : Int)) := Lib.hid fun h => by rw [used_count HV.out h]; unfold cntP; rw [List.take_length]
    clear ho hb2
    generalize tsOf l base = ts at HT hle HUC
    go_wp2_with fail
    go_loopw [6, 7] (fun g i wr => ∃ k : Nat, g = .int .i64 (gP l base k) ∧ i = .int .i64 k ∧ k ≤ n ∧ Hid (Below w2.heap.size w2 wr)) (fun _ i _ => n - (intOf i).toNat)
    case atStart => exact ⟨0, rfl, rfl, Nat.zero_le _, Lib.hid (Below.refl _ _)⟩
    case round =>
      obtain ⟨k, rfl, rfl, hk, HO⟩ := hrel
      by_cases hlt : k < n
      · obtain ⟨b, off, x, rfl, hbb, hx, hcs⟩ := HA2.out.at hlt
        obtain ⟨q0, q1, q2, q3, q4, q5⟩ := hcs.below hbb HO.out
        have HU := Lib.hid (HUC.out hx)
        have hlw := wr_len2 x
        have HGS := Lib.hid (gP_succ2 l base k)
        clear hcs hx
        go_wp2_with fail
        refine (Writes_any x _).mono ?_
        rintro e w3 ⟨v3, rfl, ho⟩
        obtain ⟨A3, c3, rfl, _⟩ := own_form ho.1
        have HI3 := Lib.hid (own_ints ho.1 (by omega))
        have HO3 := Lib.hid (HO.out.trans (ho.2.mono HO.out.size))
        clear ho q0 q1 q2 q3 q4 q5
        go_wp2_with fail
        go_loopw [9, 10] (fun g i wr => ∃ j : Nat, g = .int .i64 (cntP ts k (wrOf x) j) ∧ i = .int .i64 j ∧ j ≤ ts.length ∧ Hid (Below w3.heap.size w3 wr)) (fun _ i _ => ts.length - (intOf i).toNat)
        case atStart => exact ⟨0, rfl, rfl, Nat.zero_le _, Lib.hid (Below.refl _ _)⟩
        case round =>
          obtain ⟨j, rfl, rfl, hj, HJ⟩ := hrel
          have hcl := cnt_le ts k (wrOf x) j
          by_cases hjl : j < ts.length
          · have hb3 : Below w2.heap.size w2 wr := HO3.out.trans (HJ.out.mono HO3.out.size)
            obtain ⟨bt, offt, t, rfl, hbt, ht, htc⟩ := HT.out.at hjl
            obtain ⟨tc0, tc1, tc2, tc3⟩ := htc.below hbt hb3
            have HI4 := Lib.hid ((HI3.out.below HJ.out).more HJ.out.size)
            have HCS := Lib.hid (cnt_snoc ht k (wrOf x))
            clear ht hb3 htc
            go_wp2_with fail
            refine (tused_any t k A3 (wrOf x).length c3 (wrOf x) wr HI4.out).mono ?_
            cases hu : t.used k (wrOf x) with
            | false =>
              have HC : Hid (cntP ts k (wrOf x) (j + 1) = cntP ts k (wrOf x) j) := Lib.hid (by rw [HCS.out, hu]; rfl)
              clear hu
              rintro e w4 ⟨rfl, hb4⟩
              have HJ4 := Lib.hid (HJ.out.trans (hb4.mono HJ.out.size))
              clear hb4 tc0 tc1 tc2 tc3
              go_wp2_with fail
              exact ⟨⟨j + 1, by rw [HC.out], by go_num, by omega, HJ4⟩, by simp [intOf]; omega⟩
            | true =>
              have HC : Hid (cntP ts k (wrOf x) (j + 1) = cntP ts k (wrOf x) j + 1) := Lib.hid (by rw [HCS.out, hu]; rfl)
              clear hu
              rintro e w4 ⟨rfl, hb4⟩
              have HJ4 := Lib.hid (HJ.out.trans (hb4.mono HJ.out.size))
              clear hb4 tc0 tc1 tc2 tc3
              go_wp2_with fail
              exact ⟨⟨j + 1, by rw [HC.out]; go_num, by go_num, by omega, HJ4⟩, by simp [intOf]; omega⟩
          · obtain rfl : j = ts.length := by omega
            have HJ4 := Lib.hid (HO3.out.trans (HJ.out.mono HO3.out.size))
            have HG : Hid (gP l base (k + 1) = if gP l base k < (cntP ts k (wrOf x) ts.length : Int) then (cntP ts k (wrOf x) ts.length : Int) else gP l base k) := Lib.hid (by rw [HGS.out, HU.out])
            go_wp2_with fail
            exact ⟨⟨k + 1, by rw [HG.out], by go_num, by omega, HJ4⟩, by simp [intOf]; omega⟩
      · obtain rfl : k = n := by omega
        have HE : Hid (gP l base k = needP l base) := Lib.hid (by have := great_need HV.out; rwa [HA.out.len] at this)
        have HBE := Lib.hid (HB2.out.trans (HO.out.mono HB2.out.size))
        go_wp2_with fail
        go_ret
        exact ⟨ret_int HE.out, HBE.out⟩
set_option maxRecDepth 100000 in
set_option maxHeartbeats 1000000 in
theorem law_assign (A : Option Addr) (n c : Nat) (l : List In) (base : Int) (w : World) (ha : InsAt w w.heap.size A n l) (_hbr : -9223372036854775808 ≤ base ∧ base ≤ 9223372036854775807) :
    Calls Try.prog 4 #[.slice A n c, .int .i64 base] w fun e w' => e = .returned (.bool true) ∧ Below w.heap.size w w' := by
  have HA := Lib.hid ha
  have hn2 := ha.1.2
  clear ha
  by_cases hn : n ≤ 60
  · have d0 : decide ((60 : Int) < (n : Int)) = false := by simp; omega
    have HLA : Hid ((assignP l base).length ≤ 60) := Lib.hid (assign_len60 l base (by have := HA.out.len; omega))
    go_enter Try.func4, Try.ntmps4
    go_wp2_with fail
    refine (assign_any A n c l base w HA.out hn).mono ?_
    rintro e w1 ⟨v1, rfl, ho1⟩
    have HO1 := Lib.hid ho1
    have HA1 := Lib.hid (HA.out.next ho1.2)
    obtain ⟨A1, c1, rfl, _⟩ := own_form ho1.1
    clear ho1
    go_wp2_with fail
    refine (Assign_any A n c l base w1 HA1.out hn).mono ?_
    rintro e w2 ⟨v2, rfl, ho2⟩
    obtain ⟨A2, c2, rfl, _⟩ := own_form ho2.1
    have HO2 := Lib.hid (own_ins (own_next HO1.out.1 ho2.2) (by have := HLA.out; omega))
    have HO3 := Lib.hid (own_ins ho2.1 (by have := HLA.out; omega))
    have HA2 := Lib.hid (HA1.out.next ho2.2)
    have HB2 := Lib.hid (bNext HO1.out.2 ho2.2)
    clear ho2
    go_wp2_with fail
    refine (same_eq A1 A2 (assignP l base).length c1 c2 (assignP l base) w2 HO2.out HO3.out).mono ?_
    rintro e w3 ⟨rfl, hb3⟩
    have HB3 := Lib.hid (bNext HB2.out hb3)
    have HA3 := Lib.hid (HA2.out.next hb3)
    clear hb3
    go_wp2_with fail
    refine (need_any A n c l base w3 HA3.out hn).mono ?_
    rintro e w4 ⟨rfl, hb4⟩
    have HB4 := Lib.hid (bNext HB3.out hb4)
    have HA4 := Lib.hid (HA3.out.next hb4)
    clear hb4
    go_wp2_with fail
    refine (Need_any A n c l base w4 HA4.out hn).mono ?_
    rintro e w5 ⟨rfl, hb5⟩
    have HB5 := Lib.hid (bNext HB4.out hb5)
    clear hb5
    go_wp2_with fail
    refine (awake_any _).mono ?_
    rintro e w6 ⟨rfl, hb6⟩
    have HB6 := Lib.hid (bNext HB5.out hb6)
    clear hb6
    go_wp2_with fail
    go_ret
    exact ⟨rfl, HB6.out⟩
  · have d0 : decide ((60 : Int) < (n : Int)) = true := by simp; omega
    go_enter Try.func4, Try.ntmps4
    go_wp2_with fail
    refine (awake_any _).mono ?_
    rintro e w1 ⟨rfl, hb⟩
    have HB := Lib.hid hb
    clear hb
    go_wp2_with fail
    go_ret
    exact ⟨rfl, HB.out⟩
end Go.Proofs.Yteffpeokialeiaa
