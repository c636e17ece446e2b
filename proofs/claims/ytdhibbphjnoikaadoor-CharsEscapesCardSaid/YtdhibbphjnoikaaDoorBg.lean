/-
  The walks of the reference's Clone and of Set.
-/
import Derived.Test.YtdhibbphjnoikaaDoorBf
import Derived.Outline
namespace Go.Proofs.YtdhibbphjnoikaaDoor
open Go.RowKit
/-- a slice of pairs by value, with what an append asks -/
def SlAt (w : World) (v : Value) (l : Tab) : Prop := ∃ A c, v = .slice A l.length c ∧ PairsAt w w.heap.size A l.length l ∧ (A = none → c = 0) ∧ l.length ≤ c
theorem SlAt.own {w : World} {base n : Nat} {v : Value} {l : Tab} (h : w.ownsRow base 41 2 v n (pairCs l)) (hm : n ≤ 281474976710656) : SlAt w v l := by
  obtain ⟨A, c, e, h1, h2, h3⟩ := own_pairs h hm
  have := h1.1.1
  subst this
  exact ⟨A, c, e, h1, h2, h3⟩
theorem SlAt.below {w w' : World} {v : Value} {l : Tab} (h : SlAt w v l) (hb : Below w.heap.size w w') : SlAt w' v l := by
  obtain ⟨A, c, e, h1, h2, h3⟩ := h
  exact ⟨A, c, e, (h1.below hb).more hb.size, h2, h3⟩
set_option maxHeartbeats 1000000 in
theorem rclone_any (A : Option Addr) (n c : Nat) (l : Tab) (w : World) (hn : n * 16 ≤ 140737488355328) (ha : PairsAt w w.heap.size A n l) (hnil : A = none → c = 0) :
    Calls Tryd.prog 11 #[.slice A n c] w fun e w' => (∃ v, e = .returned v ∧ SlAt w' v l) ∧ Below w.heap.size w w' := by
  have HA := Lib.hid (ha.below (bAlloc w (.cells #[] 41)))
  have HN := Lib.hid hnil
  clear ha hnil
  go_enter Tryd.func11, Tryd.ntmps11
  go_wp2_with (at_builtin; refine wpList_append_pairs rfl _ _ rfl w.heap.size _ 0 [] rfl (World.ownsRow_made w #[] 0 (Nat.le_refl _) (by decide) rfl) A n c w.heap.size l rfl HN.out HA.out ?c1 ?c2 ?_)
  case c1 => omega
  case c2 => simp
  intro v w2 hown hg
  have hb : Below w.heap.size w w2 := (bAlloc w _).grown hg (by simp) (fun k hk => by simp [Value.ownBlock] at hk; omega)
  have hs := SlAt.own (l := l) (by simpa using hown) (by omega)
  obtain ⟨A2, c2, e2, h2⟩ := hs
  rw [e2]
  have HB := Lib.hid hb
  have HO := Lib.hid h2
  clear hb hg hown e2 h2
  go_wp2_with fail
  go_ret
  exact ⟨⟨_, rfl, _, _, rfl, HO.out⟩, HB.out⟩
theorem PairsAt.take {w : World} {B n : Nat} {A : Option Addr} {l : Tab} (h : PairsAt w B A n l) {p : Nat} (hp : p ≤ n) : PairsAt w B A p (l.take p) := by
  have hl := h.len
  have h2 := h.1.2
  refine ⟨⟨by rw [List.length_take]; omega, by omega⟩, fun h0 => ?_⟩
  obtain ⟨b, off, e, hb, hc⟩ := h.2 (by omega)
  refine ⟨b, off, e, hb, fun i x hx => hc i x ?_⟩
  rw [List.getElem?_take] at hx
  split at hx
  · exact hx
  · cases hx
theorem PairsAt.drop {w : World} {B n : Nat} {b off : Nat} {l : Tab} (h : PairsAt w B (some ⟨b, off, none⟩) n l) {p : Nat} (hp : p < n) : PairsAt w B (some ⟨b, off + p * 2, none⟩) (n - p) (l.drop p) := by
  have hl := h.len
  have h2 := h.1.2
  refine ⟨⟨by rw [List.length_drop]; omega, by omega⟩, fun h0 => ?_⟩
  obtain ⟨b', off', e, hb, hc⟩ := h.2 (by omega)
  injection e with e
  injection e with e1 e2
  subst e1 e2
  refine ⟨b, off + p * 2, rfl, hb, fun i x hx => ?_⟩
  rw [List.getElem?_drop] at hx
  have h3 := hc _ x hx
  rwa [show off + p * 2 + i * 2 = off + (p + i) * 2 by omega]
theorem pairs_new (w : World) (a b : Int) : PairsAt (w.alloc (.cells #[.int .i64 a, .int .i64 b] 41)) (w.heap.size + 1) (some ⟨w.heap.size, 0, none⟩) 1 [(a, b)] := by
  refine ⟨⟨rfl, by omega⟩, fun _ => ⟨_, 0, rfl, by omega, fun i x hx => ?_⟩⟩
  have hi : i = 0 := by
    rcases Nat.eq_zero_or_pos i with h | h
    · exact h
    · rw [List.getElem?_eq_none (by simp; omega)] at hx; cases hx
  subst hi
  simp at hx
  subst hx
  exact ⟨by simp, by simp⟩
theorem pairs_from {w : World} {B n c : Nat} {A : Option Addr} {l : Tab} (h : PairsAt w B A n l) (hnc : n ≤ c) {R : Nat} (hR : R ≤ n) : PairsAt w B (if c = R then A else A.map (·.add (R * 2))) (n - R) (l.drop R) := by
  have hl := h.len
  have h2 := h.1.2
  by_cases hlt : R < n
  · obtain ⟨b, off, e, hb, hc⟩ := h.2 (by omega)
    subst e
    by_cases he : c = R
    · rw [if_pos he]
      exact absurd hlt (by omega)
    · rw [if_neg he]
      have h3 := h.drop hlt
      simp only [Option.map_some, add_plain]
      exact h3
  · exact ⟨⟨by rw [List.length_drop]; omega, by omega⟩, fun h0 => absurd h0 (by omega)⟩
theorem nil_from {c : Nat} {A : Option Addr} (hnil : A = none → c = 0) (R : Nat) : (if c = R then A else A.map (·.add (R * 2))) = none → c - R = 0 := by
  intro e
  split at e
  · omega
  · rw [Option.map_eq_none_iff] at e
    have := hnil e
    omega
theorem slice_from {w : World} {B n c : Nat} {A : Option Addr} {l : Tab} (h : PairsAt w B A n l) (hnc : n ≤ c) (hnil : A = none → c = 0) {R : Nat} (hR : R ≤ n) :
    ∃ A', (∀ wx, (Instr.slice 22 (.slice A n c) (some (.int .i64 (R : Int))) none none).run Tryd.prog wx = .ok (.slice A' (n - R) (c - R)) wx) ∧ PairsAt w B A' (n - R) (l.drop R) ∧ (A' = none → c - R = 0) := by
  refine ⟨_, fun wx => ?_, pairs_from h hnc hR, nil_from hnil R⟩
  have he : Tryd.prog.elem 22 = 41 := by kernel_rfl
  have h0 : (0 : Int) ≤ (R : Int) := by omega
  have h1 : (R : Int) ≤ (n : Int) := by omega
  go_simp
def setC (l : Tab) (a b : Int) : Bool := vld l && chr a && chr b
set_option maxHeartbeats 1000000 in
theorem set_ok (A : Option Addr) (n c : Nat) (l : Tab) (a b : Int) (w : World) (hn : n * 16 + 16 ≤ 140737488355328) (h : PairsAt w w.heap.size A n l) (hnil : A = none → c = 0) (hnc : n ≤ c) (hv : vld l = true) (ha : chr a = true) (hb : chr b = true) :
    Calls Tryd.prog 14 #[.slice A n c, .int .i64 a, .int .i64 b] w fun e w' => (∃ v, e = .returned (.tuple #[v, .int .i64 0]) ∧ SlAt w' v (setT l a b)) ∧ Below w.heap.size w w' := by
  have hl := h.len
  have HA := Lib.hid h
  have HN := Lib.hid hnil
  have HV := Lib.hid hv
  have HE := Lib.hid (setP_eq hv ha hb)
  clear h hnil
  go_enter Tryd.func14, Tryd.ntmps14
  go_wp2_with fail
  refine (valid_any A n c l _ HA.out).mono ?_
  rintro e w1 ⟨rfl, hb1⟩
  have HB1 := Lib.hid hb1
  clear hb1
  go_wp2_with fail
  refine (is_any a _).mono ?_
  rintro e w2 ⟨rfl, rfl⟩
  go_wp2_with fail
  refine (is_any b _).mono ?_
  rintro e w2 ⟨rfl, rfl⟩
  clear hv
  go_wp2_with fail
  refine (find_any A n c l a _ ((HA.out.below HB1.out).more HB1.out.size) (srt_vld HV.out)).mono ?_
  rintro e w3 ⟨rfl, hb3⟩
  have HB3 := Lib.hid (bNext HB1.out hb3)
  clear hb3 ha hb
  have hp := pos_le l a
  generalize hpe : pos l a = p at *
  have HPE := Lib.hid hpe
  have hrest : (if (l.getD (pos l a) (0, 0)).1 = a ∧ pos l a < l.length then pos l a + 1 else pos l a) = if hasK l a then p + 1 else p := by
    unfold hasK
    rw [hpe]
    by_cases h1 : p < l.length
    · by_cases h2 : (l.getD p (0, 0)).1 = a
      · rw [if_pos ⟨h2, h1⟩, decide_eq_true h1, Bool.true_and, beq_iff_eq.2 h2]; rfl
      · rw [if_neg (fun h => h2 h.1), beq_eq_false_iff_ne.2 h2, Bool.and_false]; rfl
    · rw [if_neg (fun h => h1 h.2), decide_eq_false h1, Bool.false_and]; rfl
  have HREST := Lib.hid hrest
  clear hpe hrest
  cases hk : hasK l a
  · rw [hk] at HREST
    go_wp2_with fail
    refine (clone_any A p c (l.take p) _ (by omega) (((HA.out.below HB3.out).more HB3.out.size).take (by omega))).mono ?_
    rintro e w4 ⟨⟨v1, rfl, ho1⟩, hb4⟩
    have HO1 := Lib.hid ho1
    have HB4 := Lib.hid hb4
    clear ho1 hb4
    by_cases hab : a = b
    · have HAB := Lib.hid hab
      have hab2 : (a != b) = false := by simpa using hab
      clear hab
      obtain ⟨A', hsl, hA', hn'⟩ := slice_from ((((HA.out.below HB3.out).more HB3.out.size).below HB4.out).more HB4.out.size) hnc HN.out (R := p) (by omega)
      have HA' := Lib.hid hA'
      have HN' := Lib.hid hn'
      clear hA' hn'
      go_wp2_with (at_builtin; refine wpList_append_pairs rfl _ _ rfl w3.heap.size _ p _ rfl HO1.out A' (n - (p)) (c - (p)) w4.heap.size (l.drop (p)) rfl HN'.out HA'.out ?d3 ?d4 ?_)
      case d3 => omega
      case d4 => exact HB4.out.size
      intro v3 w6 ho3 hg3
      have hb6 : Below w3.heap.size w3 w6 := bGrown HB4.out HO1.out hg3 HB4.out.size (Nat.le_refl _)
      rw [← pairCs_app] at ho3
      have hs := SlAt.own ho3 (by omega)
      rw [show l.take p ++ l.drop (p) = setT l a b by
        rw [← HE.out]; unfold setP; rw [HREST.out, HPE.out, if_neg (by simpa using HAB.out), List.append_nil]; rfl] at hs
      have HS6 := Lib.hid hs
      have HB6 := Lib.hid (bNext HB3.out hb6)
      clear ho3 hg3 hb6 hs hsl
      go_wp2_with fail
      go_ret2
      exact ⟨⟨_, rfl, HS6.out⟩, HB6.out⟩
    · have hab2 : (a != b) = true := by simpa using hab
      have HAB := Lib.hid hab
      clear hab
      go_wp2_with (at_builtin; refine wpList_append_pairs rfl _ _ rfl w3.heap.size _ p (pairCs (l.take p)) rfl (HO1.out.alloc _) (some ⟨w4.heap.size, 0, none⟩) 1 1 (w4.heap.size + 1) [(a, b)] rfl (fun e => by cases e) (pairs_new _ _ _) ?c1 ?c2 ?_)
      case c1 => omega
      case c2 => have := HB4.out.size; simp; omega
      intro v2 w5 ho2 hg2
      have hb5 : Below w3.heap.size w3 w5 := bGrown (HB4.out.alloc HB4.out.size _) (HO1.out.alloc _) hg2 (by have := HB4.out.size; simp; omega) (Nat.le_refl _)
      have HB5 := Lib.hid hb5
      have HO2 := Lib.hid ho2
      clear hb5 ho2 hg2
      obtain ⟨A', hsl, hA', hn'⟩ := slice_from ((((HA.out.below HB3.out).more HB3.out.size).below HB5.out).more HB5.out.size) hnc HN.out (R := p) (by omega)
      have HA' := Lib.hid hA'
      have HN' := Lib.hid hn'
      clear hA' hn'
      go_wp2_with (at_builtin; refine wpList_append_pairs rfl _ _ rfl w3.heap.size _ (p + 1) _ rfl HO2.out A' (n - (p)) (c - (p)) w5.heap.size (l.drop (p)) rfl HN'.out HA'.out ?d3 ?d4 ?_)
      case d3 => omega
      case d4 => exact HB5.out.size
      intro v3 w6 ho3 hg3
      have hb6 : Below w3.heap.size w3 w6 := bGrown HB5.out HO2.out hg3 HB5.out.size (Nat.le_refl _)
      rw [← pairCs_app, ← pairCs_app] at ho3
      have hs := SlAt.own ho3 (by omega)
      rw [show l.take p ++ ([(a, b)] ++ l.drop (p)) = setT l a b by
        rw [← HE.out]; unfold setP; rw [HREST.out, HPE.out, if_pos HAB.out, ← List.append_assoc]; rfl] at hs
      have HS6 := Lib.hid hs
      have HB6 := Lib.hid (bNext HB3.out hb6)
      clear ho3 hg3 hb6 hs hsl
      go_wp2_with fail
      go_ret2
      exact ⟨⟨_, rfl, HS6.out⟩, HB6.out⟩
  · rw [hk] at HREST
    have hpn : p < n := by have h := hk; unfold hasK at h; rw [HPE.out] at h; simp at h; omega
    go_wp2_with fail
    refine (clone_any A p c (l.take p) _ (by omega) (((HA.out.below HB3.out).more HB3.out.size).take (by omega))).mono ?_
    rintro e w4 ⟨⟨v1, rfl, ho1⟩, hb4⟩
    have HO1 := Lib.hid ho1
    have HB4 := Lib.hid hb4
    clear ho1 hb4
    by_cases hab : a = b
    · have HAB := Lib.hid hab
      have hab2 : (a != b) = false := by simpa using hab
      clear hab
      obtain ⟨A', hsl, hA', hn'⟩ := slice_from ((((HA.out.below HB3.out).more HB3.out.size).below HB4.out).more HB4.out.size) hnc HN.out (R := p + 1) (by omega)
      have HA' := Lib.hid hA'
      have HN' := Lib.hid hn'
      rw [show ((p + 1 : Nat) : Int) = (p : Int) + 1 from rfl] at hsl
      clear hA' hn'
      go_wp2_with (at_builtin; refine wpList_append_pairs rfl _ _ rfl w3.heap.size _ p _ rfl HO1.out A' (n - (p + 1)) (c - (p + 1)) w4.heap.size (l.drop (p + 1)) rfl HN'.out HA'.out ?d3 ?d4 ?_)
      case d3 => omega
      case d4 => exact HB4.out.size
      intro v3 w6 ho3 hg3
      have hb6 : Below w3.heap.size w3 w6 := bGrown HB4.out HO1.out hg3 HB4.out.size (Nat.le_refl _)
      rw [← pairCs_app] at ho3
      have hs := SlAt.own ho3 (by omega)
      rw [show l.take p ++ l.drop (p + 1) = setT l a b by
        rw [← HE.out]; unfold setP; rw [HREST.out, HPE.out, if_neg (by simpa using HAB.out), List.append_nil]; rfl] at hs
      have HS6 := Lib.hid hs
      have HB6 := Lib.hid (bNext HB3.out hb6)
      clear ho3 hg3 hb6 hs hsl
      go_wp2_with fail
      go_ret2
      exact ⟨⟨_, rfl, HS6.out⟩, HB6.out⟩
    · have hab2 : (a != b) = true := by simpa using hab
      have HAB := Lib.hid hab
      clear hab
      go_wp2_with (at_builtin; refine wpList_append_pairs rfl _ _ rfl w3.heap.size _ p (pairCs (l.take p)) rfl (HO1.out.alloc _) (some ⟨w4.heap.size, 0, none⟩) 1 1 (w4.heap.size + 1) [(a, b)] rfl (fun e => by cases e) (pairs_new _ _ _) ?c1 ?c2 ?_)
      case c1 => omega
      case c2 => have := HB4.out.size; simp; omega
      intro v2 w5 ho2 hg2
      have hb5 : Below w3.heap.size w3 w5 := bGrown (HB4.out.alloc HB4.out.size _) (HO1.out.alloc _) hg2 (by have := HB4.out.size; simp; omega) (Nat.le_refl _)
      have HB5 := Lib.hid hb5
      have HO2 := Lib.hid ho2
      clear hb5 ho2 hg2
      obtain ⟨A', hsl, hA', hn'⟩ := slice_from ((((HA.out.below HB3.out).more HB3.out.size).below HB5.out).more HB5.out.size) hnc HN.out (R := p + 1) (by omega)
      have HA' := Lib.hid hA'
      have HN' := Lib.hid hn'
      rw [show ((p + 1 : Nat) : Int) = (p : Int) + 1 from rfl] at hsl
      clear hA' hn'
      go_wp2_with (at_builtin; refine wpList_append_pairs rfl _ _ rfl w3.heap.size _ (p + 1) _ rfl HO2.out A' (n - (p + 1)) (c - (p + 1)) w5.heap.size (l.drop (p + 1)) rfl HN'.out HA'.out ?d3 ?d4 ?_)
      case d3 => omega
      case d4 => exact HB5.out.size
      intro v3 w6 ho3 hg3
      have hb6 : Below w3.heap.size w3 w6 := bGrown HB5.out HO2.out hg3 HB5.out.size (Nat.le_refl _)
      rw [← pairCs_app, ← pairCs_app] at ho3
      have hs := SlAt.own ho3 (by omega)
      rw [show l.take p ++ ([(a, b)] ++ l.drop (p + 1)) = setT l a b by
        rw [← HE.out]; unfold setP; rw [HREST.out, HPE.out, if_pos HAB.out, ← List.append_assoc]; rfl] at hs
      have HS6 := Lib.hid hs
      have HB6 := Lib.hid (bNext HB3.out hb6)
      clear ho3 hg3 hb6 hs hsl
      go_wp2_with fail
      go_ret2
      exact ⟨⟨_, rfl, HS6.out⟩, HB6.out⟩
end Go.Proofs.YtdhibbphjnoikaaDoor
