/-
  Walks: ParseUint, and the name of a reader.
-/
import Derived.Test.YtbipeakinmbdiaaGreatDoorKl
namespace Go.Proofs.YtbipeakinmbdiaaGreatDoor
open Go.RowKit

/-- what ParseUint returns -/
def PvR (o : Option Nat) (e : Ending) : Prop := match o with
  | some v => e = .returned (.tuple #[.int .u64 v, .nilIface])
  | none => ∃ p, e = .returned (.tuple #[.int .u64 0, .iface 168 p])
theorem PvR.some_ {v : Nat} {e : Ending} (h : e = .returned (.tuple #[.int .u64 v, .nilIface])) : PvR (some v) e := h
theorem PvR.none_ {e : Ending} {p : Value} (h : e = .returned (.tuple #[.int .u64 0, .iface 168 p])) : PvR none e := ⟨p, h⟩
theorem parseUint_any (a b : UInt8) (w : World) (h : Env w) : Calls Tryz.prog 118 #[.string (S [a, b]), .int .i64 16, .int .i64 8] w fun e w' =>
    PvR (hexF [a, b] 0) e ∧ Below w.heap.size w w' := by
  have HE := Lib.hid h
  clear h
  go_enter Tryz.func118, Tryz.ntmps118
  go_wp2_with fail
  refine (pu144_any a b w).mono ?_
  rintro e w1 ⟨hr, hb1⟩
  have HE1 := Lib.hid (HE.out.next hb1)
  have HB1 := Lib.hid hb1
  clear hb1
  cases hx : hexF [a, b] 0 with
  | some v =>
    rw [hx] at hr
    have hr' : e = .returned (.tuple #[.int .u64 v, .nilIface]) := hr
    subst hr'
    have HXE := Lib.hid hx
    clear hr hx
    go_wp2_with fail
    go_ret2
    exact ⟨by rw [HXE.out]; exact PvR.some_ rfl, HB1.out⟩
  | none =>
    rw [hx] at hr
    have hr' : e = .returned (.tuple #[.int .u64 0, .iface 167 (.int .i64 2)]) := hr
    subst hr'
    have HXE := Lib.hid hx
    clear hr hx
    obtain ⟨tp, p, _, h6⟩ := HE1.out.syn
    have H6 := Lib.hid h6
    clear h6
    go_wp2_with fail
    refine (Tryz.strconv_toError_syntax ⟨#[80, 97, 114, 115, 101, 85, 105, 110, 116]⟩ (S [a, b]) 16 8 _ w1 (by rw [S_size]; simp) H6.out (.inr ⟨tp, p, rfl⟩)).mono ?_
    rintro e w2 ⟨N, rfl, _, _, hb2⟩
    have HB2 := Lib.hid (bNext HB1.out hb2)
    clear hb2
    go_wp2_with fail
    go_ret2
    exact ⟨by rw [HXE.out]; exact PvR.none_ rfl, HB2.out⟩
/-- how long the line of a reader is -/
def lnLen (w : World) (bl : Nat) : Nat := match w.cell? ⟨bl, 0, none⟩ with | some (.string s) => s.size | _ => 0
theorem RdAt.len {w : World} {bl bx : Nat} {s : List UInt8} (h : RdAt w bl bx s) : lnLen w bl = s.length := by unfold lnLen; rw [h.cells.1]; exact S_size s
theorem RdAt.grown {w w' : World} {bl bx : Nat} {s : List UInt8} {row : Option Nat} {B : Nat} (h : RdAt w bl bx s) (hg : w.grownBy w' row) (hr : ∀ g, row = some g → B ≤ g) (hl : bl < B) (hx : bx < B) : RdAt w' bl bx s := by
  refine ⟨h.ln.grown hg (fun e => by have := hr _ e; omega), h.fs.grown hg (fun e => by have := hr _ e; omega), h.ne, h.sz, ?_⟩
  obtain ⟨W0, h1, h2, h3⟩ := h.env
  exact ⟨W0, h1, h2, h3.grown hg h3.size (fun g e => by have := hr _ e; omega)⟩
theorem KeptQ.grown {q : Nat} {w w1 w2 : World} {row : Option Nat} (h : KeptQ q w w1) (hg : w1.grownBy w2 row) (hr : ∀ g, row = some g → w.heap.size ≤ g) : KeptQ q w w2 :=
  ⟨hg.os.trans h.os, hg.tape.trans h.tape, hg.output.trans h.output, Nat.le_trans h.size hg.size, fun i hi hq => (hg.block i (Nat.lt_of_lt_of_le hi h.size) (fun e => by have := hr i e.symm; omega)).trans (h.block i hi hq)⟩
theorem own_back {w : World} {base n : Nat} {v : Value} {l : List UInt8} (h : w.ownsRow base 5 1 v n (bCs l)) (hn : n = l.length) : (convert 45 9 v).run Tryz.prog w = .ok (.string (S l)) w := by
  subst hn
  cases l with
  | nil =>
    rcases h.2 with ⟨rfl, _⟩ | ⟨g, cap, cur, rfl, _⟩
    · kernel_rfl
    · exact run_convert_bytes_back w 45 9 5 ⟨g, 0, none⟩ cap [] (by kernel_rfl) (by kernel_rfl) (by kernel_rfl) (fun j hj => absurd hj (by simp))
  | cons c t =>
    obtain ⟨g, cap, rfl⟩ := own_some2 h (by simp)
    exact run_convert_bytes_back w 45 9 5 ⟨g, 0, none⟩ cap (c :: t) (by kernel_rfl) (by kernel_rfl) (by kernel_rfl) (fun j hj => by
      have hc := h.cellAt (g := g) j (by omega)
      rw [show (⟨g, 0, none⟩ : Addr).add j = ⟨g, j, none⟩ by cases j <;> simp [Addr.add], hc]
      unfold bCs
      rw [List.getElem?_map, List.getElem?_eq_getElem hj]
      rfl)
/-- where the reading of a name stands -/
structure NmAt (w wr : World) (bl bx : Nat) (s1 : List UInt8) (v : Value) (acc r : List UInt8) : Prop where
  ow : wr.ownsRow w.heap.size 5 1 v acc.length (bCs acc)
  rd : RdAt wr bl bx r
  kp : KeptQ bl w wr
  eq : bodyP s1 = (bodyP r).map fun p => (acc ++ p.1, p.2)
  ln : acc.length + r.length ≤ 1000000
  lt : bl < w.heap.size ∧ bx < w.heap.size
theorem NmAt.rd3 {w wr w3 : World} {bl bx : Nat} {s1 : List UInt8} {v : Value} {acc r : List UInt8} {o : Obj} (h : NmAt w wr bl bx s1 v acc r) (hg : (wr.alloc o).grownBy w3 v.ownBlock) : RdAt w3 bl bx r :=
  (h.rd.next (bAlloc _ _)).grown hg (fun _g e => (own_lt h.ow e).1) h.lt.1 h.lt.2
theorem NmAt.push {w wr w3 : World} {bl bx : Nat} {s1 : List UInt8} {v v' : Value} {acc r r' : List UInt8} {o : Obj} {c : UInt8} (h : NmAt w wr bl bx s1 v acc r)
    (ho : w3.ownsRow w.heap.size 5 1 v' (acc.length + 1) (bCs acc ++ [.int .u8 c.toNat])) (hg : (wr.alloc o).grownBy w3 v.ownBlock) (he : bodyP r = (bodyP r').map fun p => (c :: p.1, p.2)) (hl : r'.length < r.length) :
    NmAt w (w3.setCell ⟨bl, 0, none⟩ (.string (S r'))) bl bx s1 v' (acc ++ [c]) r' := by
  have hr := h.rd3 hg
  have hb := hr.ln.set_ 0 (.string (S r'))
  refine ⟨?_, hr.cut ((KeptQ.refl bl w3).set (p := ⟨bl, 0, none⟩) (.inl rfl) _) (by omega) (by simpa using hb), ?_, ?_, ?_, h.lt⟩
  · rw [List.length_append, show bCs (acc ++ [c]) = bCs acc ++ [.int .u8 c.toNat] from bCs_app _ _]
    exact own_stay ho fun g hg2 => heap_setCell_other _ _ _ _ (by have := (own_lt ho hg2).1; have := h.lt.1; show g ≠ bl; omega)
  · exact ((h.kp.trans (KeptQ.of (bAlloc wr o))).grown hg (fun g e => (own_lt h.ow e).1)).set (p := ⟨bl, 0, none⟩) (.inl rfl) _
  · rw [h.eq, he, Option.map_map]
    cases bodyP r' with
    | none => rfl
    | some p => simp
  · have := h.ln
    simp only [List.length_append, List.length_cons, List.length_nil]
    omega
theorem nm_push {w wr w3 : World} {bl bx : Nat} {s1 : List UInt8} {v v' : Value} {acc r r' : List UInt8} {o : Obj} {c : UInt8} (how : wr.ownsRow w.heap.size 5 1 v acc.length (bCs acc)) (hr : RdAt wr bl bx r) (hk : KeptQ bl w wr) (hlt : bl < w.heap.size ∧ bx < w.heap.size)
    (ho : w3.ownsRow w.heap.size 5 1 v' (acc.length + 1) (bCs acc ++ [.int .u8 c.toNat])) (hg : (wr.alloc o).grownBy w3 v.ownBlock) (he : bodyP s1 = (bodyP r').map fun p => (acc ++ [c] ++ p.1, p.2)) (hl : r'.length ≤ r.length) (hn : acc.length + 1 + r'.length ≤ 1000000) :
    RdAt w3 bl bx r ∧ NmAt w (w3.setCell ⟨bl, 0, none⟩ (.string (S r'))) bl bx s1 v' (acc ++ [c]) r' := by
  have hr3 : RdAt w3 bl bx r := (hr.next (bAlloc _ _)).grown hg (fun g e => (own_lt how e).1) hlt.1 hlt.2
  have hb := hr3.ln.set_ 0 (.string (S r'))
  refine ⟨hr3, ?_, hr3.cut ((KeptQ.refl bl w3).set (p := ⟨bl, 0, none⟩) (.inl rfl) _) hl (by simpa using hb), ?_, he, ?_, hlt⟩
  · rw [List.length_append, show bCs (acc ++ [c]) = bCs acc ++ [.int .u8 c.toNat] from bCs_app _ _]
    exact own_stay ho fun g hg2 => heap_setCell_other _ _ _ _ (by have := (own_lt ho hg2).1; have := hlt.1; show g ≠ bl; omega)
  · exact ((hk.trans (KeptQ.of (bAlloc wr o))).grown hg (fun g e => (own_lt how e).1)).set (p := ⟨bl, 0, none⟩) (.inl rfl) _
  · simp only [List.length_append, List.length_cons, List.length_nil]
    omega
theorem NmAt.walk {w wr w2 : World} {bl bx : Nat} {s1 : List UInt8} {v : Value} {acc r r2 : List UInt8} (h : NmAt w wr bl bx s1 v acc r) (hk : KeptQ bl wr w2) (hr : RdAt w2 bl bx r2) (he : bodyP s1 = (bodyP r2).map fun p => (acc ++ p.1, p.2)) (hl : r2.length ≤ r.length) : NmAt w w2 bl bx s1 v acc r2 :=
  ⟨own_stay h.ow fun g hg => hk.block g (own_lt h.ow hg).2 (by have := (own_lt h.ow hg).1; have := h.lt.1; omega), hr, h.kp.trans hk, he, by have := h.ln; omega, h.lt⟩
set_option maxRecDepth 100000 in
set_option maxHeartbeats 4000000 in
theorem name_any (s : List UInt8) (bl bx : Nat) (w : World) (h : RdAt w bl bx s) : Calls Tryz.prog 116 #[.pointer (some ⟨bx, 0, none⟩), .pointer (some ⟨bl, 0, none⟩)] w (RdR w bl bx (nameP s) fun l => .string (S l)) := by
  obtain ⟨i5, hi, hz0, hz1, hz2⟩ := info_parts info5
  have HI := Lib.hid hz1
  have H := Lib.hid h
  have hlt0 := h.ln.lt
  have hlt1 := h.fs.lt
  obtain ⟨f0, f1, f2, f3, f4, f5, fl⟩ := h.funs
  clear h
  go_enter Tryz.func116, Tryz.ntmps116
  go_wp2_with fail
  refine (literal_any [34] s bl bx w H.out).mono ?_
  intro e w1 hr
  rcases hr.cases with ⟨_, s1, ho, rfl, hrd, hkq⟩ | ⟨ho, rfl, hkq⟩
  rotate_left
  · have HN := Lib.hid (show nameP s = none by
      unfold nameP
      cases hl : litP [34] s with
      | none => rfl
      | some u => rw [hl] at ho; cases ho)
    exact ⟨rfl, RdR.none HN.out rfl hkq⟩
  · have HN := Lib.hid (show nameP s = bodyP s1 by
      unfold nameP
      cases hl : litP [34] s with
      | none => rw [hl] at ho; cases ho
      | some u => rw [hl] at ho; injection ho with ho; injection ho with _ ho; subst ho; rfl)
    have HST := Lib.hid (show NmAt w w1 bl bx s1 (.slice none 0 0) [] s1 from ⟨World.ownsRow_nil w1 w.heap.size 5 1, hrd, hkq, by cases bodyP s1 <;> rfl, by have := hrd.sz; simpa using this, hlt0, hlt1⟩)
    clear hr ho hrd hkq f0 f1 f2 f3 f4 f5 fl hlt0 hlt1
    go_wp2_with fail
    go_loopw [3] (fun v wr => ∃ acc r, Hid (NmAt w wr bl bx s1 v acc r)) (fun _ wr => lnLen wr bl)
    case atStart => exact ⟨[], s1, HST⟩
    case round =>
      obtain ⟨acc, r, HA⟩ := hrel
      obtain ⟨f0, f1, f2, f3, f4, f5, fl⟩ := HA.out.rd.funs
      go_wp2_with fail
      refine (starts_any [34] r bl bx wr HA.out.rd).mono ?_
      rintro e w2 ⟨rfl, rfl⟩
      cases hp : [34].isPrefixOf r
      rotate_left
      · have HL := Lib.hid (show ∃ t, r = 34 :: t by
          cases r with
          | nil => cases hp
          | cons c t =>
            rw [pre_cons] at hp
            have e : (34 : UInt8) = c := by simpa using hp
            exact ⟨t, by rw [e]⟩)
        clear hp
        go_wp2_with fail
        refine (literal_any [34] r bl bx w2 HA.out.rd).mono ?_
        intro e w3 hr
        obtain ⟨t, ht⟩ := HL.out
        rcases hr.cases with ⟨_, s2, ho, rfl, hrd, hkq⟩ | ⟨ho, rfl, hkq⟩
        rotate_left
        · rw [ht, show litP [34] (34 :: t) = some t from litP_app [34] t] at ho; cases ho
        · rw [ht, show litP [34] (34 :: t) = some t from litP_app [34] t] at ho
          injection ho with ho
          injection ho with _ ho
          subst ho
          have HRS := Lib.hid (show nameP s = some (acc, t) by rw [HN.out, HA.out.eq, ht, body_end]; simp)
          have HRD := Lib.hid hrd
          have HKK := Lib.hid (HA.out.kp.trans hkq)
          have how : w3.ownsRow w.heap.size 5 1 u3 acc.length (bCs acc) := own_stay HA.out.ow fun g hg => hkq.block g (own_lt HA.out.ow hg).2 (by have := (own_lt HA.out.ow hg).1; have := HA.out.lt.1; omega)
          have hbk := own_back how rfl
          clear hr hrd hkq how ht f0 f1 f2 f3 f4 f5 fl
          go_wp2_with fail
          go_ret
          exact RdR.some HRS.out rfl HRD.out HKK.out
      · go_wp2_with fail
        refine (empty_any r bl bx w2 HA.out.rd).mono ?_
        rintro e w3 ⟨rfl, rfl⟩
        cases r with
        | nil =>
          have HRS := Lib.hid (show nameP s = none by rw [HN.out, HA.out.eq]; rfl)
          have HKK := Lib.hid HA.out.kp
          simp only [List.isEmpty_nil]
          go_wp2_with fail
          refine (fail_any w3).mono ?_
          rintro e w4 ⟨rfl, rfl⟩
          exact ⟨rfl, RdR.none HRS.out rfl HKK.out⟩
        | cons c t =>
          have hc34 : c ≠ 34 := by rintro rfl; rw [pre_cons] at hp; simp at hp
          have HC34 := Lib.hid hc34
          clear hp hc34
          simp only [List.isEmpty_cons]
          obtain ⟨l0, ll, lf⟩ := HA.out.rd.cells
          have hzz : (S (c :: t)).size = t.length + 1 := S_size (c :: t)
          have hx0 : (S (c :: t))[0]'(by omega) = c := rfl
          go_wp2_with fail
          refine (plain_any c w3).mono ?_
          rintro e w4 ⟨rfl, rfl⟩
          cases hpl : plainB c
          · have HPL := Lib.hid hpl
            clear hpl hx0 hzz l0 ll lf
            go_wp2_with fail
            refine (literal_any [92, 120] (c :: t) bl bx w4 HA.out.rd).mono ?_
            intro e w5 hr
            rcases hr.cases with ⟨_, r2, ho, rfl, hrd, hkq⟩ | ⟨ho, rfl, hkq⟩
            rotate_left
            · have HRS := Lib.hid (show nameP s = none by
                rw [HN.out, HA.out.eq, body_lit HC34.out HPL.out (by
                  cases hl : litP [92, 120] (c :: t) with
                  | none => rfl
                  | some u => rw [hl] at ho; cases ho)]
                rfl)
              exact ⟨rfl, RdR.none HRS.out rfl (HA.out.kp.trans hkq)⟩
            · have hct : c :: t = 92 :: 120 :: r2 := by
                cases hl : litP [92, 120] (c :: t) with
                | none => rw [hl] at ho; cases ho
                | some u => rw [hl] at ho; injection ho with ho; injection ho with _ ho; subst ho; exact litP_some hl
              have HEQ := Lib.hid (show bodyP s1 = (bodyP (92 :: 120 :: r2)).map fun p => (acc ++ p.1, p.2) by rw [HA.out.eq, hct])
              have HLN := Lib.hid (show acc.length + r2.length + 2 ≤ 1000000 ∧ r2.length + 2 = t.length + 1 by
                have h1 := HA.out.ln
                rw [hct] at h1
                have h2 := congrArg List.length hct
                simp only [List.length_cons] at h1 h2
                omega)
              have HOW := Lib.hid (show w5.ownsRow w.heap.size 5 1 u3 acc.length (bCs acc) from own_stay HA.out.ow fun g hg => hkq.block g (own_lt HA.out.ow hg).2 (by have := (own_lt HA.out.ow hg).1; have := HA.out.lt.1; omega))
              have HRD := Lib.hid hrd
              have HKQ := Lib.hid (HA.out.kp.trans hkq)
              have HLT := Lib.hid HA.out.lt
              have HM5 := Lib.hid (show lnLen w4 bl = t.length + 1 from HA.out.rd.len)
              clear hr ho hrd hkq hct HA f0 f1 f2 f3 f4 f5 fl HC34 HPL
              by_cases hsh : r2.length < 2
              · have HRS := Lib.hid (show nameP s = none by rw [HN.out, HEQ.out, body_short hsh]; rfl)
                have hzz : (S r2).size = r2.length := S_size r2
                have q1 : decide ((r2.length : Int) < 2) = true := by simp; omega
                clear hsh
                go_upto_region 11 with fail
                obtain ⟨D, hD⟩ : ∃ X, Hid (X = w5.drew) := ⟨_, rfl⟩
                have hd : Below w5.heap.size w5 D := by rw [hD.out]; exact bDrewN (Below.refl _ _) 1
                refine wp_region_N (fun w' => Below w5.heap.size w5 w') (fun _ => true) (by kernel_rfl) ?_
                rw [← hD.out]
                clear hD
                have hS0 := hd
                refine wpAnyN_take (i := 0) (v := ?v1) rfl (by kernel_rfl) (by kernel_rfl) (by kernel_rfl) (by kernel_rfl) (fun _ _ _ h => h) (Or.inl ⟨by rfl, ?hy1⟩) (by assumption) ?_
                case hy1 => intro w hSw; obtain ⟨l0, ll, lf⟩ := (HRD.out.next hSw).cells; go_simp; try with_reducible rfl
                simp only [Act.put, List.getElem_toArray, List.getElem_cons_zero, List.setIfInBounds_toArray, List.set_cons_zero, List.set_cons_succ]
                refine wpAnyN_take (i := 1) (v := ?v2) rfl (by kernel_rfl) (by kernel_rfl) (by kernel_rfl) (by kernel_rfl) (fun _ _ _ h => h) (Or.inl ⟨by rfl, ?hy2⟩) (by assumption) ?_
                case hy2 => intro w hSw; (try dsimp only at hSw); go_simp; try with_reducible rfl
                simp only [Act.put, List.getElem_toArray, List.getElem_cons_zero, List.getElem_cons_succ, List.setIfInBounds_toArray, List.set_cons_zero, List.set_cons_succ]
                refine wpAnyN_take (i := 2) (v := .bool true) rfl (by kernel_rfl) (by kernel_rfl) (by kernel_rfl) (by kernel_rfl) (fun _ _ _ h => h) (Or.inl ⟨by rfl, ?hvs2⟩) (by assumption) ?_
                case hvs2 => intro w hSw; go_simp
                simp only [Act.put, List.getElem_toArray, List.getElem_cons_zero, List.getElem_cons_succ, List.setIfInBounds_toArray, List.set_cons_zero, List.set_cons_succ]
                refine wpAnyN_take (i := 3) (v := ?v3) rfl (by kernel_rfl) (by kernel_rfl) (by kernel_rfl) (by kernel_rfl) (fun _ _ _ h => h) (Or.inl ⟨by rfl, ?hy3⟩) (by assumption) ?_
                case hy3 => intro w hSw; (try dsimp only at hSw); go_simp; try with_reducible rfl
                simp only [Act.put, List.getElem_toArray, List.getElem_cons_zero, List.getElem_cons_succ, List.setIfInBounds_toArray, List.set_cons_zero, List.set_cons_succ]
                refine wpAnyN_take (i := 4) (v := undef) rfl (by kernel_rfl) (by kernel_rfl) (by kernel_rfl) (by kernel_rfl) (fun _ _ _ h => h) (Or.inr ⟨by rfl, rfl⟩) (by assumption) ?_
                simp only [Act.put, List.getElem_toArray, List.getElem_cons_zero, List.getElem_cons_succ, List.setIfInBounds_toArray, List.set_cons_zero, List.set_cons_succ]
                refine wpAnyN_take (i := 5) (v := undef) rfl (by kernel_rfl) (by kernel_rfl) (by kernel_rfl) (by kernel_rfl) (fun _ _ _ h => h) (Or.inr ⟨by rfl, rfl⟩) (by assumption) ?_
                simp only [Act.put, List.getElem_toArray, List.getElem_cons_zero, List.getElem_cons_succ, List.setIfInBounds_toArray, List.set_cons_zero, List.set_cons_succ]
                refine wpAnyN_take (i := 6) (v := undef) rfl (by kernel_rfl) (by kernel_rfl) (by kernel_rfl) (by kernel_rfl) (fun _ _ _ h => h) (Or.inr ⟨by rfl, rfl⟩) (by assumption) ?_
                simp only [Act.put, List.getElem_toArray, List.getElem_cons_zero, List.getElem_cons_succ, List.setIfInBounds_toArray, List.set_cons_zero, List.set_cons_succ]
                refine wpAnyN_take (i := 7) (v := undef) rfl (by kernel_rfl) (by kernel_rfl) (by kernel_rfl) (by kernel_rfl) (fun _ _ _ h => h) (Or.inr ⟨by rfl, rfl⟩) (by assumption) ?_
                simp only [Act.put, List.getElem_toArray, List.getElem_cons_zero, List.getElem_cons_succ, List.setIfInBounds_toArray, List.set_cons_zero, List.set_cons_succ]
                refine wpAnyN_take (i := 8) (v := undef) rfl (by kernel_rfl) (by kernel_rfl) (by kernel_rfl) (by kernel_rfl) (fun _ _ _ h => h) (Or.inr ⟨by rfl, rfl⟩) (by assumption) ?_
                simp only [Act.put, List.getElem_toArray, List.getElem_cons_zero, List.getElem_cons_succ, List.setIfInBounds_toArray, List.set_cons_zero, List.set_cons_succ]
                refine wpAnyN_take (i := 9) (v := undef) rfl (by kernel_rfl) (by kernel_rfl) (by kernel_rfl) (by kernel_rfl) (fun _ _ _ h => h) (Or.inr ⟨by rfl, rfl⟩) (by assumption) ?_
                simp only [Act.put, List.getElem_toArray, List.getElem_cons_zero, List.getElem_cons_succ, List.setIfInBounds_toArray, List.set_cons_zero, List.set_cons_succ]
                refine wpAnyN_take (i := 10) (v := ?v4) rfl (by kernel_rfl) (by kernel_rfl) (by kernel_rfl) (by kernel_rfl) (fun _ _ _ h => h) (Or.inl ⟨by rfl, ?hy4⟩) (by assumption) ?_
                case hy4 => intro w hSw; (try dsimp only at hSw); go_simp; try with_reducible rfl
                simp only [Act.put, List.getElem_toArray, List.getElem_cons_zero, List.getElem_cons_succ, List.setIfInBounds_toArray, List.set_cons_zero, List.set_cons_succ]
                refine wpAnyN_done (by kernel_rfl) ?_ _
                have HK6 := Lib.hid (HKQ.out.trans (KeptQ.of hd))
                clear hS0 hd
                go_wp2_with fail
                refine (fail_any D).mono ?_
                rintro e w6 ⟨rfl, rfl⟩
                exact ⟨rfl, RdR.none HRS.out rfl HK6.out⟩
              · obtain ⟨a, b, u, rfl⟩ : ∃ a b u, r2 = a :: b :: u := by
                  match r2, hsh with
                  | [], h => exact absurd h (by simp)
                  | [x], h => exact absurd h (by simp)
                  | x :: y :: z, _ => exact ⟨x, y, z, rfl⟩
                have HBH := Lib.hid (body_hex a b u)
                have hzz : (S (a :: b :: u)).size = u.length + 2 := S_size (a :: b :: u)
                have htx : (S (a :: b :: u)).extract 0 2 = S [a, b] := S_to (a :: b :: u) 2
                clear hsh
                go_upto_region 11 with fail
                obtain ⟨D, hD⟩ : ∃ X, Hid (X = w5.drew) := ⟨_, rfl⟩
                have hd : Below w5.heap.size w5 D := by rw [hD.out]; exact bDrewN (Below.refl _ _) 1
                refine wp_region_N (fun w' => Below w5.heap.size w5 w') (fun _ => true) (by kernel_rfl) ?_
                rw [← hD.out]
                clear hD
                have hS0 := hd
                refine wpAnyN_take (i := 0) (v := ?v5) rfl (by kernel_rfl) (by kernel_rfl) (by kernel_rfl) (by kernel_rfl) (fun _ _ _ h => h) (Or.inl ⟨by rfl, ?hy5⟩) (by assumption) ?_
                case hy5 => intro w hSw; obtain ⟨l0, ll, lf⟩ := (HRD.out.next hSw).cells; go_simp; try with_reducible rfl
                simp only [Act.put, List.getElem_toArray, List.getElem_cons_zero, List.setIfInBounds_toArray, List.set_cons_zero, List.set_cons_succ]
                refine wpAnyN_take (i := 1) (v := ?v6) rfl (by kernel_rfl) (by kernel_rfl) (by kernel_rfl) (by kernel_rfl) (fun _ _ _ h => h) (Or.inl ⟨by rfl, ?hy6⟩) (by assumption) ?_
                case hy6 => intro w hSw; (try dsimp only at hSw); go_simp; try with_reducible rfl
                simp only [Act.put, List.getElem_toArray, List.getElem_cons_zero, List.getElem_cons_succ, List.setIfInBounds_toArray, List.set_cons_zero, List.set_cons_succ]
                refine wpAnyN_take (i := 2) (v := .bool false) rfl (by kernel_rfl) (by kernel_rfl) (by kernel_rfl) (by kernel_rfl) (fun _ _ _ h => h) (Or.inl ⟨by rfl, ?hvl2⟩) (by assumption) ?_
                case hvl2 => intro w hSw; go_simp; omega
                simp only [Act.put, List.getElem_toArray, List.getElem_cons_zero, List.getElem_cons_succ, List.setIfInBounds_toArray, List.set_cons_zero, List.set_cons_succ]
                refine wpAnyN_take (i := 3) (v := ?v7) rfl (by kernel_rfl) (by kernel_rfl) (by kernel_rfl) (by kernel_rfl) (fun _ _ _ h => h) (Or.inl ⟨by rfl, ?hy7⟩) (by assumption) ?_
                case hy7 => intro w hSw; (try dsimp only at hSw); go_simp; try with_reducible rfl
                simp only [Act.put, List.getElem_toArray, List.getElem_cons_zero, List.getElem_cons_succ, List.setIfInBounds_toArray, List.set_cons_zero, List.set_cons_succ]
                refine wpAnyN_take (i := 4) (v := ?v8) rfl (by kernel_rfl) (by kernel_rfl) (by kernel_rfl) (by kernel_rfl) (fun _ _ _ h => h) (Or.inl ⟨by rfl, ?hy8⟩) (by assumption) ?_
                case hy8 => intro w hSw; obtain ⟨l0, ll, lf⟩ := (HRD.out.next hSw).cells; go_simp; try with_reducible rfl
                simp only [Act.put, List.getElem_toArray, List.getElem_cons_zero, List.getElem_cons_succ, List.setIfInBounds_toArray, List.set_cons_zero, List.set_cons_succ]
                refine wpAnyN_take (i := 5) (v := .string (S [a, b])) rfl (by kernel_rfl) (by kernel_rfl) (by kernel_rfl) (by kernel_rfl) (fun _ _ _ h => h) (Or.inl ⟨by rfl, ?hvx5⟩) (by assumption) ?_
                case hvx5 => intro w hSw; go_simp; intro h; exact absurd h (by omega)
                simp only [Act.put, List.getElem_toArray, List.getElem_cons_zero, List.getElem_cons_succ, List.setIfInBounds_toArray, List.set_cons_zero, List.set_cons_succ]
                refine wpAnyN_take (i := 7) (v := ?v9) rfl (by kernel_rfl) (by kernel_rfl) (by kernel_rfl) (by kernel_rfl) (fun _ _ _ h => h) (Or.inl ⟨by rfl, ?hy9⟩) (by assumption) ?_
                case hy9 => intro w hSw; obtain ⟨l0, ll, lf⟩ := (HRD.out.next hSw).cells; go_simp; try with_reducible rfl
                simp only [Act.put, List.getElem_toArray, List.getElem_cons_zero, List.getElem_cons_succ, List.setIfInBounds_toArray, List.set_cons_zero, List.set_cons_succ]
                refine wpAnyN_take (i := 8) (v := .string (S [a, b])) rfl (by kernel_rfl) (by kernel_rfl) (by kernel_rfl) (by kernel_rfl) (fun _ _ _ h => h) (Or.inl ⟨by rfl, ?hvx8⟩) (by assumption) ?_
                case hvx8 => intro w hSw; go_simp; intro h; exact absurd h (by omega)
                simp only [Act.put, List.getElem_toArray, List.getElem_cons_zero, List.getElem_cons_succ, List.setIfInBounds_toArray, List.set_cons_zero, List.set_cons_succ]
                refine wpAnyN_one (i := 6) (by kernel_rfl) rfl (fun K hK => ?_)
                simp only [List.getElem_toArray, List.getElem_cons_zero, List.getElem_cons_succ]
                go_simp
                refine (Tryz.strings_ToLower_any (S [a, b]) D (by rw [S_size]; simp) (HRD.out.next hd).envw.cas (HRD.out.next hd).envw.utf).mono ?_
                rintro e w6 ⟨rfl, hb6⟩
                have hk6 : Below w5.heap.size w5 w6 := bNext hd hb6
                refine hK _ _ (fun _ => hk6) ?_
                rw [S_list, show (⟨(Lib.toLowerD [a, b]).toArray⟩ : ByteArray) = S (Lib.toLowerD [a, b]) from rfl]
                (try simp only [Act.put, List.setIfInBounds_toArray, List.set_cons_zero, List.set_cons_succ])
                refine wpAnyN_take (i := 9) (v := ?v10) rfl (by kernel_rfl) (by kernel_rfl) (by kernel_rfl) (by kernel_rfl) (fun _ _ _ h => h) (Or.inl ⟨by rfl, ?hy10⟩) (by assumption) ?_
                case hy10 => intro w hSw; (try dsimp only at hSw); go_simp; try with_reducible rfl
                simp only [Act.put, List.getElem_toArray, List.getElem_cons_zero, List.getElem_cons_succ, List.setIfInBounds_toArray, List.set_cons_zero, List.set_cons_succ]
                refine wpAnyN_take (i := 10) (v := ?v11) rfl (by kernel_rfl) (by kernel_rfl) (by kernel_rfl) (by kernel_rfl) (fun _ _ _ h => h) (Or.inl ⟨by rfl, ?hy11⟩) (by assumption) ?_
                case hy11 => intro w hSw; (try dsimp only at hSw); go_simp; try with_reducible rfl
                simp only [Act.put, List.getElem_toArray, List.getElem_cons_zero, List.getElem_cons_succ, List.setIfInBounds_toArray, List.set_cons_zero, List.set_cons_succ]
                refine wpAnyN_done (by kernel_rfl) ?_ _
                have HRD6 := Lib.hid (HRD.out.next hk6)
                have HOW6 := Lib.hid (own_next HOW.out hk6)
                have HKQ6 := Lib.hid (HKQ.out.trans (KeptQ.of hk6))
                clear hb6 hk6 hS0 hd HRD HOW HKQ
                obtain ⟨z, hz⟩ : ∃ z, Hid (z = !((S (Lib.toLowerD [a, b])).toList == (S [a, b]).toList)) := ⟨_, rfl⟩
                rw [← hz.out]
                have hzz2 : z = !(Lib.toLowerD [a, b] == [a, b]) := by rw [hz.out, ByteArray.toList_eq, ByteArray.toList_eq, S_list, S_list]
                cases z
                · have hlow : Lib.toLowerD [a, b] = [a, b] := by simpa using hzz2.symm
                  have HB2 := Lib.hid (show bodyP (92 :: 120 :: a :: b :: u) = (match hexF [a, b] 0 with | some v => if plainB (UInt8.ofNat v) then none else (bodyP u).map fun p => (UInt8.ofNat v :: p.1, p.2) | none => none) by rw [HBH.out, if_pos hlow]; cases hexF [a, b] 0 <;> rfl)
                  clear hlow hzz2 hz HBH
                  obtain ⟨l0, ll, lf⟩ := HRD6.out.cells
                  go_wp2_with fail
                  refine (parseUint_any a b w6 HRD6.out.envw).mono ?_
                  rintro e w7 ⟨hpv, hb7⟩
                  have HRD7 := Lib.hid (HRD6.out.next hb7)
                  have HOW7 := Lib.hid (own_next HOW6.out hb7)
                  have HKQ7 := Lib.hid (HKQ6.out.trans (KeptQ.of hb7))
                  clear hb7 HRD6 HOW6 HKQ6 l0 ll lf
                  cases hx : hexF [a, b] 0 with
                  | none =>
                    rw [hx] at hpv
                    obtain ⟨p, rfl⟩ := hpv
                    have HRS := Lib.hid (show nameP s = none by rw [HN.out, HEQ.out, HB2.out, hx]; rfl)
                    clear hx
                    go_wp2_with fail
                    refine (fail_any w7).mono ?_
                    rintro e w8 ⟨rfl, rfl⟩
                    exact ⟨rfl, RdR.none HRS.out rfl HKQ7.out⟩
                  | some v =>
                    rw [hx] at hpv
                    have hpv' : e = .returned (.tuple #[.int .u64 v, .nilIface]) := hpv
                    subst hpv'
                    obtain ⟨cv, hcv⟩ : ∃ cv, Hid (cv = UInt8.ofNat v) := ⟨_, rfl⟩
                    have HB3 := Lib.hid (show bodyP (92 :: 120 :: a :: b :: u) = if plainB cv then none else (bodyP u).map fun p => (cv :: p.1, p.2) by rw [HB2.out, hx, hcv.out])
                    have hwv : IntKind.wrap .u8 (v : Int) = (cv.toNat : Int) := by
                      have := hexF_lt hx
                      rw [hcv.out, UInt8.toNat_ofNat', IntKind.wrap_u8]
                      omega
                    clear hpv hx HB2 hcv
                    go_wp2_with fail
                    refine (plain_any cv w7).mono ?_
                    rintro e w8 ⟨rfl, rfl⟩
                    cases hpl : plainB cv
                    · have HB4 := Lib.hid (show bodyP (92 :: 120 :: a :: b :: u) = (bodyP u).map fun p => (cv :: p.1, p.2) by rw [HB3.out, if_neg (by rw [hpl]; simp)])
                      clear hpl HB3
                      go_wp2_with (at_builtin; refine wpList_append_own_at _ rfl (.tmp 57) (.tmp 60) 45 rfl w.heap.size 5 i5 (.int .u8 0) 1 1 (by kernel_rfl) hi hz0 HI.out hz2 rfl (by decide) _ _ _ rfl (HOW7.out.alloc _) ⟨w8.heap.size, 0, none⟩ 1 1 [.int .u8 cv.toNat] rfl rfl ?b1 ?b2 ?b3 ?b4 ?b5 ?_)
                      case b1 => exact cell_one_new _ _ _
                      case b2 => simp [Value.oneCell']
                      case b3 => unfold maxLen; have := HLN.out; omega
                      case b4 => have := HLN.out; omega
                      case b5 => have := HKQ7.out.size; simp; omega
                      intro v' w9 hown' hg _ _
                      obtain ⟨hr9, hn9⟩ := nm_push (r' := u) HOW7.out HRD7.out HKQ7.out HLT.out hown' hg (by
                        rw [HEQ.out, HB4.out, Option.map_map]
                        cases bodyP u with
                        | none => rfl
                        | some p => simp) (by simp; omega) (by have := HLN.out; simp only [List.length_cons] at this; omega)
                      have HP9 := Lib.hid hn9
                      have HM9 := Lib.hid (show u.length < t.length + 1 by have := HLN.out; simp only [List.length_cons] at this; omega)
                      obtain ⟨l0, ll, lf⟩ := hr9.cells
                      have hfr : (S (a :: b :: u)).extract 2 (u.length + 2) = S u := S_from (a :: b :: u) 2
                      clear hown' hg hn9 hr9
                      go_wp2_with fail
                      exact ⟨⟨acc ++ [cv], u, HP9⟩, by rw [HP9.out.rd.len, HM5.out]; exact HM9.out⟩
                    · have HRS := Lib.hid (show nameP s = none by rw [HN.out, HEQ.out, HB3.out, if_pos hpl]; rfl)
                      clear hpl
                      go_wp2_with fail
                      refine (fail_any w8).mono ?_
                      rintro e w9 ⟨rfl, rfl⟩
                      exact ⟨rfl, RdR.none HRS.out rfl HKQ7.out⟩
                · have hlow : Lib.toLowerD [a, b] ≠ [a, b] := by simpa using hzz2.symm
                  have HRS := Lib.hid (show nameP s = none by rw [HN.out, HEQ.out, HBH.out, if_neg hlow]; rfl)
                  clear hlow hzz2 hz
                  go_wp2_with fail
                  refine (fail_any w6).mono ?_
                  rintro e w7 ⟨rfl, rfl⟩
                  exact ⟨rfl, RdR.none HRS.out rfl HKQ6.out⟩
          · have HBP := Lib.hid (body_plain hpl t)
            clear hpl hx0
            go_wp2_with (at_builtin; refine wpList_append_own_at _ rfl (.tmp 22) (.tmp 24) 45 rfl w.heap.size 5 i5 (.int .u8 0) 1 1 (by kernel_rfl) hi hz0 HI.out hz2 rfl (by decide) _ _ _ rfl (HA.out.ow.alloc _) ⟨w4.heap.size, 0, none⟩ 1 1 [.int .u8 c.toNat] rfl rfl ?a1 ?a2 ?a3 ?a4 ?a5 ?_)
            case a1 => exact cell_one_new _ _ _
            case a2 => simp [Value.oneCell']
            case a3 => unfold maxLen; have := HA.out.ln; omega
            case a4 => have := HA.out.ln; omega
            case a5 => have := HA.out.kp.size; simp; omega
            intro v' w5 hown' hg _ _
            have HR5 := Lib.hid (HA.out.rd3 hg)
            have HP5 := Lib.hid (HA.out.push hown' hg HBP.out (by simp))
            have HM4 := Lib.hid HA.out.rd.len
            obtain ⟨l0, ll, lf⟩ := HR5.out.cells
            have hfr : (S (c :: t)).extract 1 (t.length + 1) = S t := S_from (c :: t) 1
            clear hown' hg f0 f1 f2 f3 f4 f5 fl HA
            go_wp2_with fail
            exact ⟨⟨acc ++ [c], t, HP5⟩, by rw [HP5.out.rd.len, HM4.out]; simp⟩
end Go.Proofs.YtbipeakinmbdiaaGreatDoor
