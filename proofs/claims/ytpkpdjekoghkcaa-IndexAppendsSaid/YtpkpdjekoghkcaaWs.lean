/-
  The walk of the law IndexAppends.
-/
import Derived.Test.YtpkpdjekoghkcaaRt
import Derived.Deep.CutRange
namespace Go.Proofs.Ytpkpdjekoghkcaa
open Go.RowKit

set_option maxRecDepth 100000 in
set_option maxHeartbeats 1000000 in
theorem Select_own (u : Value) (x : Ix) (k : K) (w : World) (hx : IxAt w w.heap.size u x) :
    Calls Try.prog 18 #[u, k.v] w fun e w' => (∃ v, e = .returned v ∧ w'.ownsRow w.heap.size 3 1 v (selIx (validIx x) x k).length ((selIx (validIx x) x k).map (.int .i64))) ∧ Below w.heap.size w w' := by
  have hx0 := hx
  obtain ⟨A0, c0, A1, c1, A2, c2, rfl, ha0, ha1, ha2⟩ := hx
  have n0 := ha0.1.2
  have n1 := ha1.1.2
  have n2 := ha2.1.2
  have he := key_eql
  obtain ⟨W, HW⟩ : ∃ W, Hid (W = (w.alloc (.cells #[.slice A0 x.all.length c0, .slice A1 x.rows.length c1, .slice A2 x.rest.length c2] 26)).alloc (.cells #[.int .i64 k.kind, .int .i64 k.n, .string k.name, .int .i64 k.ar] 35)) := ⟨_, rfl⟩
  have hWb : Below w.heap.size w W := by rw [HW.out]; exact ((Below.refl _ _).alloc (Nat.le_refl _) _).alloc (by simp) _
  have hbox : Blk W w.heap.size 26 #[.slice A0 x.all.length c0, .slice A1 x.rows.length c1, .slice A2 x.rest.length c2] := by rw [HW.out]; exact (Blk.new _ _ _).below (bAlloc _ _) (by simp)
  have hbox2 : Blk W (w.heap.size + 1) 35 #[.int .i64 k.kind, .int .i64 k.n, .string k.name, .int .i64 k.ar] := by rw [HW.out]; have := Blk.new (w.alloc (.cells #[.slice A0 x.all.length c0, .slice A1 x.rows.length c1, .slice A2 x.rest.length c2] 26)) 35 #[.int .i64 k.kind, .int .i64 k.n, .string k.name, .int .i64 k.ar]; simpa using this
  go_enter Try.func18, Try.ntmps18
  go_wp2_with fail
  rw [← HW.out]
  refine (Valid_any _ x _ (by exact ((hx0.below hWb).more hWb.size))).mono ?_
  rintro e w1 ⟨rfl, hb1⟩
  cases hv : validIx x
  · go_wp2_with fail
    go_ret
    exact ⟨⟨_, rfl, by rw [hv, sel_bad (.inl rfl)]; exact World.ownsRow_nil _ _ _ _⟩, bNext hWb hb1⟩
  · have q1 := hbox2.below hb1 hbox2.lt
    have k0 : w1.cell? ⟨w.heap.size + 1, 0, none⟩ = some (.int .i64 k.kind) := by rw [q1.cell]; rfl
    have k1 : w1.cell? ⟨w.heap.size + 1, 1, none⟩ = some (.int .i64 k.n) := by rw [q1.cell]; rfl
    have k2 : w1.cell? ⟨w.heap.size + 1, 2, none⟩ = some (.string k.name) := by rw [q1.cell]; rfl
    have k3 : w1.cell? ⟨w.heap.size + 1, 3, none⟩ = some (.int .i64 k.ar) := by rw [q1.cell]; rfl
    have HB1 := Lib.hid hb1
    clear hb1 q1
    go_wp2_with fail
    refine (valid_any k _).mono ?_
    rintro e w2 ⟨rfl, hb2⟩
    have hb3 := bNext HB1.out hb2
    have HB3 := Lib.hid hb3
    have q1 := hbox2.below hb3 hbox2.lt
    have q2 := hbox.below hb3 hbox.lt
    clear k0 k1 k2 k3 hb2
    have k0 : w2.cell? ⟨w.heap.size + 1, 0, none⟩ = some (.int .i64 k.kind) := by rw [q1.cell]; rfl
    have b0 : w2.cell? ⟨w.heap.size, 0, none⟩ = some (.slice A0 x.all.length c0) := by rw [q2.cell]; rfl
    have b1 : w2.cell? ⟨w.heap.size, 1, none⟩ = some (.slice A1 x.rows.length c1) := by rw [q2.cell]; rfl
    clear q1 q2 hb3
    cases hk : okK k
    · go_wp2_with fail
      go_ret
      exact ⟨⟨_, rfl, by rw [hv, sel_bad (.inr hk)]; exact World.ownsRow_nil _ _ _ _⟩, bNext hWb HB3.out⟩
    · obtain ⟨v0, v1, v2⟩ := valid_lens hv
      cases hz : (k.kind == 0)
      · go_wp2_with fail
        go_loopw [6, 24] (fun _ i wr => ∃ q, q ≤ x.rows.length ∧ i = .int .i64 ((q : Nat) : Int) ∧ Below W.heap.size W wr ∧
          Hid (((x.rows.take q).find? fun r => K.eqv r.1 k) = none)) (fun _ i _ => x.rows.length - (intOf i).toNat)
        case atStart => exact ⟨0, by omega, rfl, HB3.out, Lib.hid rfl⟩
        case round =>
          obtain ⟨q, hq, rfl, hb, HN⟩ := hrel
          clear k0 b0 b1
          have hbw : Below w.heap.size w wr := bNext hWb hb
          have q1 := hbox2.below hb hbox2.lt
          have q2 := hbox.below hb hbox.lt
          by_cases hqt : q < x.rows.length
          · obtain ⟨b, off, r, rfl, hB, hr, hr4, A, c, hr5', hrl⟩ := ha1.at hqt
            obtain ⟨h1, h2, h3, h4⟩ := (hr4.below hB hbw).four
            have hr5 := (hbw.cell (p := ⟨b, off + q * 5 + 4, none⟩) hB).trans hr5'
            clear hr5'
            have zb : b < wr.heap.size := by have := hbw.size; omega
            have nr := hrl.1.2
            have k0 : wr.cell? ⟨w.heap.size + 1, 0, none⟩ = some (.int .i64 k.kind) := by rw [q1.cell]; rfl
            have k1 : wr.cell? ⟨w.heap.size + 1, 1, none⟩ = some (.int .i64 k.n) := by rw [q1.cell]; rfl
            have k2 : wr.cell? ⟨w.heap.size + 1, 2, none⟩ = some (.string k.name) := by rw [q1.cell]; rfl
            have k3 : wr.cell? ⟨w.heap.size + 1, 3, none⟩ = some (.int .i64 k.ar) := by rw [q1.cell]; rfl
            have zk : w.heap.size + 1 < wr.heap.size := q1.lt
            have HR := Lib.hid hr
            have HB := Lib.hid hb
            have hrl' := (hrl.below hbw).more hbw.size
            clear hr hr4 hb hrl q1 q2
            cases hke : eqK r.1.kind r.1.n r.1.name r.1.ar k.kind k.n k.name k.ar
            · go_wp2_with fail
              exact ⟨⟨q + 1, by omega, by go_num, bNext HB.out (bAlloc _ _), Lib.hid (find_next HN.out HR.out hke)⟩, by simp [intOf]; omega⟩
            · have hba := bAlloc wr (.cells #[.int .i64 r.1.kind, .int .i64 r.1.n, .string r.1.name, .int .i64 r.1.ar, .slice A r.2.length c] 62)
              have hlr := v2 r (List.mem_of_getElem? HR.out)
              go_wp2_with fail
              refine (clone_any A r.2.length c r.2 _ (by omega) (by exact (hrl'.below hba).more hba.size)).mono ?_
              rintro e w3 ⟨⟨v, rfl, hv3⟩, hb3⟩
              obtain ⟨A', c', rfl⟩ := own_form hv3
              go_wp2_with fail
              go_ret
              exact ⟨⟨_, rfl, by rw [hv, sel_row hk hz HN.out HR.out hke]; exact own_base hv3 (by have := hbw.size; simp; omega)⟩, bNext hbw (bStart hb3)⟩
          · have b2 : wr.cell? ⟨w.heap.size, 2, none⟩ = some (.slice A2 x.rest.length c2) := by rw [q2.cell]; rfl
            have HB := Lib.hid hbw
            have ha2' := (ha2.below hbw).more hbw.size
            clear hb q1 q2 hbw
            go_wp2_with fail
            refine (clone_any A2 x.rest.length c2 x.rest _ (by omega) (by exact ha2')).mono ?_
            rintro e w3 ⟨⟨v, rfl, hv3⟩, hb3⟩
            obtain ⟨A', c', rfl⟩ := own_form hv3
            go_wp2_with fail
            go_ret
            exact ⟨⟨_, rfl, by rw [hv, sel_rest hk hz HN.out (by omega)]; exact own_base hv3 HB.out.size⟩, bNext HB.out hb3⟩
      · have HBW := Lib.hid (bNext hWb HB3.out)
        have ha0' := (ha0.below HBW.out).more HBW.out.size
        go_wp2_with fail
        refine (clone_any A0 x.all.length c0 x.all _ (by omega) (by exact ha0')).mono ?_
        rintro e w3 ⟨⟨v, rfl, hv3⟩, hb3⟩
        obtain ⟨A', c', rfl⟩ := own_form hv3
        go_wp2_with fail
        go_ret
        exact ⟨⟨_, rfl, by rw [hv, sel_var hk hz]; exact own_base hv3 HBW.out.size⟩, bNext HBW.out hb3⟩

structure ApSt (w w' : World) (N N2 : Nat) (last k : K) (A0 : Option Addr) (c0 : Nat) (A1 : Option Addr) (c1 : Nat) (A2 : Option Addr) (c2 : Nat) (B0 : Option Addr) (d0 : Nat) (B1 : Option Addr) (d1 : Nat) (B2 : Option Addr) (d2 : Nat) (X Y : Ix) : Prop where
  l : Blk w' w.heap.size 35 #[.int .i64 last.kind, .int .i64 last.n, .string last.name, .int .i64 last.ar]
  k : Blk w' (w.heap.size + 1) 35 #[.int .i64 k.kind, .int .i64 k.n, .string k.name, .int .i64 k.ar]
  x : Blk w' N 26 #[.slice A0 X.all.length c0, .slice A1 X.rows.length c1, .slice A2 X.rest.length c2]
  y : Blk w' N2 26 #[.slice B0 Y.all.length d0, .slice B1 Y.rows.length d1, .slice B2 Y.rest.length d2]
  ix : IxAt w' w'.heap.size (.agg #[.slice A0 X.all.length c0, .slice A1 X.rows.length c1, .slice A2 X.rest.length c2]) X
  iy : IxAt w' w'.heap.size (.agg #[.slice B0 Y.all.length d0, .slice B1 Y.rows.length d1, .slice B2 Y.rest.length d2]) Y
  bel : Below w.heap.size w w'
section
variable {w w' w2 : World} {N N2 c0 c1 c2 d0 d1 d2 : Nat} {last k : K} {A0 A1 A2 B0 B1 B2 : Option Addr} {X Y : Ix}
theorem ApSt.next (h : ApSt w w' N N2 last k A0 c0 A1 c1 A2 c2 B0 d0 B1 d1 B2 d2 X Y) (hb : Below w'.heap.size w' w2) : ApSt w w2 N N2 last k A0 c0 A1 c1 A2 c2 B0 d0 B1 d1 B2 d2 X Y :=
  ⟨h.l.below hb h.l.lt, h.k.below hb h.k.lt, h.x.below hb h.x.lt, h.y.below hb h.y.lt, (h.ix.below hb).more hb.size, (h.iy.below hb).more hb.size, bNext h.bel hb⟩
theorem ApSt.cl (h : ApSt w w' N N2 last k A0 c0 A1 c1 A2 c2 B0 d0 B1 d1 B2 d2 X Y) : w'.cell? ⟨w.heap.size, 0, none⟩ = some (.int .i64 last.kind) ∧ w'.cell? ⟨w.heap.size, 1, none⟩ = some (.int .i64 last.n) ∧ w'.cell? ⟨w.heap.size, 2, none⟩ = some (.string last.name) ∧ w'.cell? ⟨w.heap.size, 3, none⟩ = some (.int .i64 last.ar) := by
  rw [h.l.cell, h.l.cell, h.l.cell, h.l.cell]; exact ⟨rfl, rfl, rfl, rfl⟩
theorem ApSt.ck (h : ApSt w w' N N2 last k A0 c0 A1 c1 A2 c2 B0 d0 B1 d1 B2 d2 X Y) : w'.cell? ⟨w.heap.size + 1, 0, none⟩ = some (.int .i64 k.kind) ∧ w'.cell? ⟨w.heap.size + 1, 1, none⟩ = some (.int .i64 k.n) ∧ w'.cell? ⟨w.heap.size + 1, 2, none⟩ = some (.string k.name) ∧ w'.cell? ⟨w.heap.size + 1, 3, none⟩ = some (.int .i64 k.ar) := by
  rw [h.k.cell, h.k.cell, h.k.cell, h.k.cell]; exact ⟨rfl, rfl, rfl, rfl⟩
theorem ApSt.cx (h : ApSt w w' N N2 last k A0 c0 A1 c1 A2 c2 B0 d0 B1 d1 B2 d2 X Y) : w'.cell? ⟨N, 0, none⟩ = some (.slice A0 X.all.length c0) ∧ w'.cell? ⟨N, 1, none⟩ = some (.slice A1 X.rows.length c1) ∧ w'.cell? ⟨N, 2, none⟩ = some (.slice A2 X.rest.length c2) := by
  rw [h.x.cell, h.x.cell, h.x.cell]; exact ⟨rfl, rfl, rfl⟩
theorem ApSt.cy (h : ApSt w w' N N2 last k A0 c0 A1 c1 A2 c2 B0 d0 B1 d1 B2 d2 X Y) : w'.cell? ⟨N2, 0, none⟩ = some (.slice B0 Y.all.length d0) ∧ w'.cell? ⟨N2, 1, none⟩ = some (.slice B1 Y.rows.length d1) ∧ w'.cell? ⟨N2, 2, none⟩ = some (.slice B2 Y.rest.length d2) := by
  rw [h.y.cell, h.y.cell, h.y.cell]; exact ⟨rfl, rfl, rfl⟩
end
theorem listTo_app (L : List K) (last k : K) : listTo (L ++ [last]) k (L.length + 1) = listTo L k L.length ++ (if matK last k then [(L.length : Int)] else []) := by
  have h1 : listTo (L ++ [last]) k L.length = listTo L k L.length := by
    unfold listTo
    congr 1
    apply List.filter_congr
    intro i hi
    rw [List.getElem?_append_left (List.mem_range.1 hi)]
  have hx : (L ++ [last])[L.length]? = some last := by simp
  cases hm : matK last k
  · rw [listTo_no hx hm, h1]; simp
  · rw [listTo_yes hx hm, h1]; simp
theorem keyCs_app (L M : List K) : keyCs (L ++ M) = keyCs L ++ keyCs M := by
  induction L with
  | nil => rfl
  | cons x t ih => simp [keyCs, ih]
theorem buildE_app (L : List K) (last : K) (hL : L.length ≤ 499) : buildE (L ++ [last]) = if L.all okK && okK last then 0 else 1 := by
  unfold buildE
  rw [List.all_append]
  simp only [List.all_cons, List.all_nil, Bool.and_true, List.length_append, List.length_cons, List.length_nil]
  split
  · rw [if_pos (by omega)]
  · rfl

set_option maxRecDepth 100000 in
set_option maxHeartbeats 2000000 in
theorem law6_any (A : Option Addr) (n c : Nat) (hcap : n ≤ c) (hnil : A = none → c = 0) (ks : List K) (last k : K) (w : World) (ha : KeysAt w w.heap.size A n ks) :
    Calls Try.prog 6 #[.slice A n c, last.v, k.v] w fun e w' => e = .returned (.bool true) ∧ Below w.heap.size w w' := by
  obtain ⟨i0, hi, hz0, hz1, hz2⟩ := info_parts info3
  have n48 := ha.1.2
  obtain ⟨W, HW⟩ : ∃ W, Hid (W = (w.alloc (.cells #[.int .i64 last.kind, .int .i64 last.n, .string last.name, .int .i64 last.ar] 35)).alloc (.cells #[.int .i64 k.kind, .int .i64 k.n, .string k.name, .int .i64 k.ar] 35)) := ⟨_, rfl⟩
  have hWb : Below w.heap.size w W := by rw [HW.out]; exact ((Below.refl _ _).alloc (Nat.le_refl _) _).alloc (by simp) _
  have ql : Blk W w.heap.size 35 #[.int .i64 last.kind, .int .i64 last.n, .string last.name, .int .i64 last.ar] := by rw [HW.out]; exact (Blk.new _ _ _).alloc _
  have qk : Blk W (w.heap.size + 1) 35 #[.int .i64 k.kind, .int .i64 k.n, .string k.name, .int .i64 k.ar] := by
    rw [HW.out]; have := Blk.new (w.alloc (.cells #[.int .i64 last.kind, .int .i64 last.n, .string last.name, .int .i64 last.ar] 35)) 35 #[.int .i64 k.kind, .int .i64 k.n, .string k.name, .int .i64 k.ar]; simpa using this
  have HNIL := Lib.hid hnil
  have HWB := Lib.hid hWb
  clear hnil hWb
  go_enter Try.func6, Try.ntmps6
  go_wp2_with fail
  rw [← HW.out]
  refine (example_any _).mono ?_
  rintro e w1 ⟨rfl, hb1⟩
  have ql1 := ql.below hb1 ql.lt
  have qk1 := qk.below hb1 qk.lt
  have HB1 := Lib.hid (bNext HWB.out hb1)
  clear ql qk hb1
  go_wp2_with fail
  · obtain ⟨L, hL⟩ : ∃ L, KeysAt w w.heap.size A 499 L := ⟨_, ha.take (by omega)⟩
    have hM5 : 499 ≤ 499 := by omega
    have hll : L.length = 499 := hL.1.1
    have hL1 := (hL.below HB1.out).more HB1.out.size
    refine (Build_any A 499 c L _ hL1).mono ?_
    rintro e w3 ⟨⟨v, rfl, hv⟩, hb3⟩
    have hv0 := hv
    obtain ⟨A0, c0, A1, c1, A2, c2, rfl, -, -, -⟩ := hv
    obtain ⟨V, HV⟩ : ∃ V, Hid (V = w3.alloc (.cells #[.slice A0 (buildIx L).all.length c0, .slice A1 (buildIx L).rows.length c1, .slice A2 (buildIx L).rest.length c2] 26)) := ⟨_, rfl⟩
    obtain ⟨N, HN⟩ : ∃ N, Hid (N = w3.heap.size) := ⟨_, rfl⟩
    have hbV3 : Below w3.heap.size w3 V := by rw [HV.out]; exact bAlloc _ _
    have hb1V := bNext hb3 hbV3
    have hbV : Below w.heap.size w V := bNext HB1.out hb1V
    have qx : Blk V N 26 #[.slice A0 (buildIx L).all.length c0, .slice A1 (buildIx L).rows.length c1, .slice A2 (buildIx L).rest.length c2] := by rw [HV.out, HN.out]; exact Blk.new _ _ _
    have ql2 := ql1.below hb1V ql1.lt
    have qk2 := qk1.below hb1V qk1.lt
    have HIX := Lib.hid ((hv0.below hbV3).more hbV3.size)
    have HBV := Lib.hid hbV
    have HLV := Lib.hid ((hL.below hbV).more hbV.size)
    clear hv0 hb3 hbV3 hbV hL ha hL1 hb1V ql1 qk1
    obtain ⟨X, HX⟩ : ∃ X, Hid (X = buildIx L) := ⟨_, rfl⟩
    rw [← HX.out] at qx HIX HV ⊢
    obtain ⟨E, HE⟩ : ∃ E, Hid (E = buildE L) := ⟨_, rfl⟩
    rw [← HE.out]
    go_wp2_with fail
    rw [← HV.out, ← HN.out]
    go_cut [9] from 25 to 30 (fun s9 wx => wx.ownsRow V.heap.size 35 4 s9 (499 + 1) (keyCs (L ++ [last])) ∧ Below V.heap.size V wx)
    case first =>
      have zl := ql2.lt
      have l0 : V.cell? ⟨w.heap.size, 0, none⟩ = some (.int .i64 last.kind) := by rw [ql2.cell]; rfl
      have l1 : V.cell? ⟨w.heap.size, 1, none⟩ = some (.int .i64 last.n) := by rw [ql2.cell]; rfl
      have l2 : V.cell? ⟨w.heap.size, 2, none⟩ = some (.string last.name) := by rw [ql2.cell]; rfl
      have l3 : V.cell? ⟨w.heap.size, 3, none⟩ = some (.int .i64 last.ar) := by rw [ql2.cell]; rfl
      refine wp_region_N (fun w' => w'.cell? ⟨w.heap.size, 0, none⟩ = some (.int .i64 last.kind) ∧ w'.cell? ⟨w.heap.size, 1, none⟩ = some (.int .i64 last.n) ∧ w'.cell? ⟨w.heap.size, 2, none⟩ = some (.string last.name) ∧ w'.cell? ⟨w.heap.size, 3, none⟩ = some (.int .i64 last.ar)) (fun i => i != 6) (by kernel_rfl) ?_
      have hS0 : (fun w' => w'.cell? ⟨w.heap.size, 0, none⟩ = some (.int .i64 last.kind) ∧ w'.cell? ⟨w.heap.size, 1, none⟩ = some (.int .i64 last.n) ∧ w'.cell? ⟨w.heap.size, 2, none⟩ = some (.string last.name) ∧ w'.cell? ⟨w.heap.size, 3, none⟩ = some (.int .i64 last.ar)) V.drew := ⟨l0, l1, l2, l3⟩
      refine wpAnyN_take (i := 3) (v := ?v1) rfl (by kernel_rfl) (by kernel_rfl) (by kernel_rfl) (by kernel_rfl) (fun _ _ _ h => h) (Or.inl ⟨by rfl, ?hy1⟩) (by assumption) ?_
      case hy1 => intro w hSw; (try dsimp only at hSw); go_simp; try with_reducible rfl
      simp only [Act.put, List.getElem_toArray, List.getElem_cons_zero, List.getElem_cons_succ, List.setIfInBounds_toArray, List.set_cons_zero, List.set_cons_succ]
      refine wpAnyN_take (i := 1) (v := ?v2) rfl (by kernel_rfl) (by kernel_rfl) (by kernel_rfl) (by kernel_rfl) (fun _ _ _ h => h) (Or.inl ⟨by rfl, ?hy2⟩) (by assumption) ?_
      case hy2 => intro w hSw; (try dsimp only at hSw); go_simp; try with_reducible rfl
      simp only [Act.put, List.getElem_toArray, List.getElem_cons_zero, List.getElem_cons_succ, List.setIfInBounds_toArray, List.set_cons_zero, List.set_cons_succ]
      refine wpAnyN_two (i := 0) (j := 4) (by kernel_rfl) rfl rfl (fun K1 hK1 => ?_) (fun K1 hK1 => ?_)
      · simp only [List.getElem_toArray, List.getElem_cons_zero]
        go_simp
        have hS1 : (fun w' => w'.cell? ⟨w.heap.size, 0, none⟩ = some (.int .i64 last.kind) ∧ w'.cell? ⟨w.heap.size, 1, none⟩ = some (.int .i64 last.n) ∧ w'.cell? ⟨w.heap.size, 2, none⟩ = some (.string last.name) ∧ w'.cell? ⟨w.heap.size, 3, none⟩ = some (.int .i64 last.ar)) ((V.alloc (.cells #[] 35)).drew) := ⟨(World.cell?_alloc_lt _ _ _ (by simp; omega)).trans hS0.1, (World.cell?_alloc_lt _ _ _ (by simp; omega)).trans hS0.2.1, (World.cell?_alloc_lt _ _ _ (by simp; omega)).trans hS0.2.2.1, (World.cell?_alloc_lt _ _ _ (by simp; omega)).trans hS0.2.2.2⟩
        refine hK1 _ _ (fun _ => hS1) ?_
        (try simp only [Act.put, List.setIfInBounds_toArray, List.set_cons_zero, List.set_cons_succ])
        refine wpAnyN_two (i := 2) (j := 4) (by kernel_rfl) rfl rfl (fun K2 hK2 => ?_) (fun K2 hK2 => ?_)
        · simp only [List.getElem_toArray, List.getElem_cons_zero, List.getElem_cons_succ]
          rw [if_pos (by rfl)]
          have hbW : Below V.heap.size V ((V.alloc (.cells #[] 35)).drew) := bDrewN (bAlloc V _) 1
          have hoW := World.ownsRow.drew (World.ownsRow_made (size := 4) (e := 35) V #[] 0 (Nat.le_refl V.heap.size) (by decide) rfl)
          (try simp only [World.heap_size_alloc, World.alloc_heap_size] at hoW)
          (try simp at hoW)
          refine wp_append_keys _ _ rfl V.heap.size (.slice (some ⟨V.heap.size, 0, none⟩) 0 0) 0 [] rfl hoW A 499 c _ L rfl HNIL.out (HLV.out.below hbW) (by omega) (by simp; try omega) ?_
          intro v2 w2 hown2 hg2
          have hS2 : (fun w' => w'.cell? ⟨w.heap.size, 0, none⟩ = some (.int .i64 last.kind) ∧ w'.cell? ⟨w.heap.size, 1, none⟩ = some (.int .i64 last.n) ∧ w'.cell? ⟨w.heap.size, 2, none⟩ = some (.string last.name) ∧ w'.cell? ⟨w.heap.size, 3, none⟩ = some (.int .i64 last.ar)) w2 := ⟨(hg2.cell_far _ (by simp; omega) (by simp [Value.ownBlock]; omega)).trans hS1.1, (hg2.cell_far _ (by simp; omega) (by simp [Value.ownBlock]; omega)).trans hS1.2.1, (hg2.cell_far _ (by simp; omega) (by simp [Value.ownBlock]; omega)).trans hS1.2.2.1, (hg2.cell_far _ (by simp; omega) (by simp [Value.ownBlock]; omega)).trans hS1.2.2.2⟩
          have hb2 : Below V.heap.size V w2 := bGrown hbW hoW hg2 (by simp; try omega) (Nat.le_refl _)
          have zz2 := hb2.size
          refine hK2 _ _ (fun _ => hS2) ?_
          (try simp only [Act.put, List.setIfInBounds_toArray, List.set_cons_zero, List.set_cons_succ])
          refine wpAnyN_one (i := 4) (by kernel_rfl) rfl (fun K4 hK4 => ?_)
          simp only [List.getElem_toArray, List.getElem_cons_zero, List.getElem_cons_succ]
          go_simp
          have hS3 : (fun w' => w'.cell? ⟨w.heap.size, 0, none⟩ = some (.int .i64 last.kind) ∧ w'.cell? ⟨w.heap.size, 1, none⟩ = some (.int .i64 last.n) ∧ w'.cell? ⟨w.heap.size, 2, none⟩ = some (.string last.name) ∧ w'.cell? ⟨w.heap.size, 3, none⟩ = some (.int .i64 last.ar)) (w2.alloc (.cells #[.int .i64 last.kind, .int .i64 last.n, .string last.name, .int .i64 last.ar] 35)) := ⟨(World.cell?_alloc_lt _ _ _ (by simp; omega)).trans hS2.1, (World.cell?_alloc_lt _ _ _ (by simp; omega)).trans hS2.2.1, (World.cell?_alloc_lt _ _ _ (by simp; omega)).trans hS2.2.2.1, (World.cell?_alloc_lt _ _ _ (by simp; omega)).trans hS2.2.2.2⟩
          refine hK4 _ _ (fun _ => hS3) ?_
          have hb3 : Below V.heap.size V (w2.alloc (.cells #[.int .i64 last.kind, .int .i64 last.n, .string last.name, .int .i64 last.ar] 35)) := bNext hb2 (bAlloc w2 _)
          have hown3 := hown2.alloc (.cells #[.int .i64 last.kind, .int .i64 last.n, .string last.name, .int .i64 last.ar] 35)
          have hblk := Blk.new w2 35 #[.int .i64 last.kind, .int .i64 last.n, .string last.name, .int .i64 last.ar]
          refine wpAnyN_one (i := 5) (by kernel_rfl) rfl (fun K5 hK5 => ?_)
          simp only [List.getElem_toArray, List.getElem_cons_zero, List.getElem_cons_succ]
          rw [if_pos (by rfl)]
          refine wp_append_keys _ _ rfl V.heap.size _ (0 + 499) _ rfl hown3 (some ⟨w2.heap.size, 0, none⟩) 1 1 _ [last] rfl (fun h => by cases h) (keys_blk [last] hblk rfl (by simp)) (by omega) (by exact hb3.size) ?_
          intro v5 w5 hown5 hg5
          have zz3 := hb3.size
          (try simp only [World.heap_size_alloc] at zz3)
          have hS5 : (fun w' => w'.cell? ⟨w.heap.size, 0, none⟩ = some (.int .i64 last.kind) ∧ w'.cell? ⟨w.heap.size, 1, none⟩ = some (.int .i64 last.n) ∧ w'.cell? ⟨w.heap.size, 2, none⟩ = some (.string last.name) ∧ w'.cell? ⟨w.heap.size, 3, none⟩ = some (.int .i64 last.ar)) w5 := ⟨(hg5.cell_far _ (by simp; omega) (fun e => absurd (hown3.lt _ e.symm).1 (by show ¬ V.heap.size ≤ w.heap.size; omega))).trans hS3.1, (hg5.cell_far _ (by simp; omega) (fun e => absurd (hown3.lt _ e.symm).1 (by show ¬ V.heap.size ≤ w.heap.size; omega))).trans hS3.2.1, (hg5.cell_far _ (by simp; omega) (fun e => absurd (hown3.lt _ e.symm).1 (by show ¬ V.heap.size ≤ w.heap.size; omega))).trans hS3.2.2.1, (hg5.cell_far _ (by simp; omega) (fun e => absurd (hown3.lt _ e.symm).1 (by show ¬ V.heap.size ≤ w.heap.size; omega))).trans hS3.2.2.2⟩
          have hb5 : Below V.heap.size V w5 := bGrown hb3 hown3 hg5 (by exact hb3.size) (Nat.le_refl _)
          refine hK5 _ _ (fun _ => hS5) ?_
          (try simp only [Act.put, List.setIfInBounds_toArray, List.set_cons_zero, List.set_cons_succ])
          refine wpAnyN_one (i := 6) (by kernel_rfl) rfl (fun K6 hK6 => ?_)
          simp only [List.getElem_toArray, List.getElem_cons_zero, List.getElem_cons_succ]
          go_simp
          refine hK6 _ _ (fun h => absurd h (by decide)) ?_
          refine wpAnyN_done (by kernel_rfl) ?_ _
          have HF : Hid (w5.ownsRow V.heap.size 35 4 v5 (499 + 1) (keyCs (L ++ [last])) ∧ Below V.heap.size V w5) := Lib.hid ⟨by rw [keyCs_app]; simpa using hown5, hb5⟩
          clear hown5 hg5 hS5 hown3 hblk hS3 hb3 hown2 hg2 hS2 hb2 hoW hbW hS0 hb5
          go_wp2_with fail
          go_meet
          exact HF.out
        · simp only [List.getElem_toArray, List.getElem_cons_zero, List.getElem_cons_succ]
          go_simp
          have hS1b : (fun w' => w'.cell? ⟨w.heap.size, 0, none⟩ = some (.int .i64 last.kind) ∧ w'.cell? ⟨w.heap.size, 1, none⟩ = some (.int .i64 last.n) ∧ w'.cell? ⟨w.heap.size, 2, none⟩ = some (.string last.name) ∧ w'.cell? ⟨w.heap.size, 3, none⟩ = some (.int .i64 last.ar)) (((V.alloc (.cells #[] 35)).alloc (.cells #[.int .i64 last.kind, .int .i64 last.n, .string last.name, .int .i64 last.ar] 35)).drew) := ⟨(World.cell?_alloc_lt _ _ _ (by simp; omega)).trans hS1.1, (World.cell?_alloc_lt _ _ _ (by simp; omega)).trans hS1.2.1, (World.cell?_alloc_lt _ _ _ (by simp; omega)).trans hS1.2.2.1, (World.cell?_alloc_lt _ _ _ (by simp; omega)).trans hS1.2.2.2⟩
          refine hK2 _ _ (fun _ => hS1b) ?_
          (try simp only [Act.put, List.setIfInBounds_toArray, List.set_cons_zero, List.set_cons_succ])
          refine wpAnyN_one (i := 2) (by kernel_rfl) rfl (fun K4 hK4 => ?_)
          simp only [List.getElem_toArray, List.getElem_cons_zero, List.getElem_cons_succ]
          rw [if_pos (by rfl)]
          have hbW : Below V.heap.size V (((V.alloc (.cells #[] 35)).alloc (.cells #[.int .i64 last.kind, .int .i64 last.n, .string last.name, .int .i64 last.ar] 35)).drew) := bDrewN (bNext (bAlloc V _) (bAlloc _ _)) 1
          have hoW := World.ownsRow.drew (World.ownsRow.alloc (World.ownsRow_made (size := 4) (e := 35) V #[] 0 (Nat.le_refl V.heap.size) (by decide) rfl) (.cells #[.int .i64 last.kind, .int .i64 last.n, .string last.name, .int .i64 last.ar] 35))
          (try simp only [World.heap_size_alloc, World.alloc_heap_size] at hoW)
          (try simp at hoW)
          refine wp_append_keys _ _ rfl V.heap.size (.slice (some ⟨V.heap.size, 0, none⟩) 0 0) 0 [] rfl hoW A 499 c _ L rfl HNIL.out (HLV.out.below hbW) (by omega) (by simp; try omega) ?_
          intro v2 w2 hown2 hg2
          have hS2 : (fun w' => w'.cell? ⟨w.heap.size, 0, none⟩ = some (.int .i64 last.kind) ∧ w'.cell? ⟨w.heap.size, 1, none⟩ = some (.int .i64 last.n) ∧ w'.cell? ⟨w.heap.size, 2, none⟩ = some (.string last.name) ∧ w'.cell? ⟨w.heap.size, 3, none⟩ = some (.int .i64 last.ar)) w2 := ⟨(hg2.cell_far _ (by simp; omega) (by simp [Value.ownBlock]; omega)).trans hS1b.1, (hg2.cell_far _ (by simp; omega) (by simp [Value.ownBlock]; omega)).trans hS1b.2.1, (hg2.cell_far _ (by simp; omega) (by simp [Value.ownBlock]; omega)).trans hS1b.2.2.1, (hg2.cell_far _ (by simp; omega) (by simp [Value.ownBlock]; omega)).trans hS1b.2.2.2⟩
          have hb2 : Below V.heap.size V w2 := bGrown hbW hoW hg2 (by simp; try omega) (Nat.le_refl _)
          have zz2 := hb2.size
          refine hK4 _ _ (fun _ => hS2) ?_
          (try simp only [Act.put, List.setIfInBounds_toArray, List.set_cons_zero, List.set_cons_succ])
          have hown3 := hown2
          have hb3 := hb2
          have hS3 := hS2
          have hblk : Blk w2 (V.heap.size + 1) 35 #[.int .i64 last.kind, .int .i64 last.n, .string last.name, .int .i64 last.ar] := by
            have := (Blk.new (V.alloc (.cells #[] 35)) 35 #[.int .i64 last.kind, .int .i64 last.n, .string last.name, .int .i64 last.ar])
            have e1 : (V.alloc (.cells #[] 35)).heap.size = V.heap.size + 1 := by simp
            rw [e1] at this
            exact Blk.grown (w := ((V.alloc (.cells #[] 35)).alloc (.cells #[.int .i64 last.kind, .int .i64 last.n, .string last.name, .int .i64 last.ar] 35)).drew) this hg2 (by simp [Value.ownBlock])
          refine wpAnyN_one (i := 5) (by kernel_rfl) rfl (fun K5 hK5 => ?_)
          simp only [List.getElem_toArray, List.getElem_cons_zero, List.getElem_cons_succ]
          rw [if_pos (by rfl)]
          refine wp_append_keys _ _ rfl V.heap.size _ (0 + 499) _ rfl hown3 (some ⟨V.heap.size + 1, 0, none⟩) 1 1 _ [last] rfl (fun h => by cases h) (keys_blk [last] hblk rfl (by simp)) (by omega) (by exact hb3.size) ?_
          intro v5 w5 hown5 hg5
          have zz3 := hb3.size
          (try simp only [World.heap_size_alloc] at zz3)
          have hS5 : (fun w' => w'.cell? ⟨w.heap.size, 0, none⟩ = some (.int .i64 last.kind) ∧ w'.cell? ⟨w.heap.size, 1, none⟩ = some (.int .i64 last.n) ∧ w'.cell? ⟨w.heap.size, 2, none⟩ = some (.string last.name) ∧ w'.cell? ⟨w.heap.size, 3, none⟩ = some (.int .i64 last.ar)) w5 := ⟨(hg5.cell_far _ (by simp; omega) (fun e => absurd (hown3.lt _ e.symm).1 (by show ¬ V.heap.size ≤ w.heap.size; omega))).trans hS3.1, (hg5.cell_far _ (by simp; omega) (fun e => absurd (hown3.lt _ e.symm).1 (by show ¬ V.heap.size ≤ w.heap.size; omega))).trans hS3.2.1, (hg5.cell_far _ (by simp; omega) (fun e => absurd (hown3.lt _ e.symm).1 (by show ¬ V.heap.size ≤ w.heap.size; omega))).trans hS3.2.2.1, (hg5.cell_far _ (by simp; omega) (fun e => absurd (hown3.lt _ e.symm).1 (by show ¬ V.heap.size ≤ w.heap.size; omega))).trans hS3.2.2.2⟩
          have hb5 : Below V.heap.size V w5 := bGrown hb3 hown3 hg5 (by exact hb3.size) (Nat.le_refl _)
          refine hK5 _ _ (fun _ => hS5) ?_
          (try simp only [Act.put, List.setIfInBounds_toArray, List.set_cons_zero, List.set_cons_succ])
          refine wpAnyN_one (i := 6) (by kernel_rfl) rfl (fun K6 hK6 => ?_)
          simp only [List.getElem_toArray, List.getElem_cons_zero, List.getElem_cons_succ]
          go_simp
          refine hK6 _ _ (fun h => absurd h (by decide)) ?_
          refine wpAnyN_done (by kernel_rfl) ?_ _
          have HF : Hid (w5.ownsRow V.heap.size 35 4 v5 (499 + 1) (keyCs (L ++ [last])) ∧ Below V.heap.size V w5) := Lib.hid ⟨by rw [keyCs_app]; simpa using hown5, hb5⟩
          clear hown5 hg5 hS5 hown3 hblk hS3 hb3 hown2 hg2 hS2 hb2 hoW hbW hS0 hb5
          go_wp2_with fail
          go_meet
          exact HF.out
      · simp only [List.getElem_toArray, List.getElem_cons_zero, List.getElem_cons_succ]
        go_simp
        have hS1 : (fun w' => w'.cell? ⟨w.heap.size, 0, none⟩ = some (.int .i64 last.kind) ∧ w'.cell? ⟨w.heap.size, 1, none⟩ = some (.int .i64 last.n) ∧ w'.cell? ⟨w.heap.size, 2, none⟩ = some (.string last.name) ∧ w'.cell? ⟨w.heap.size, 3, none⟩ = some (.int .i64 last.ar)) ((V.alloc (.cells #[.int .i64 last.kind, .int .i64 last.n, .string last.name, .int .i64 last.ar] 35)).drew) := ⟨(World.cell?_alloc_lt _ _ _ (by simp; omega)).trans hS0.1, (World.cell?_alloc_lt _ _ _ (by simp; omega)).trans hS0.2.1, (World.cell?_alloc_lt _ _ _ (by simp; omega)).trans hS0.2.2.1, (World.cell?_alloc_lt _ _ _ (by simp; omega)).trans hS0.2.2.2⟩
        refine hK1 _ _ (fun _ => hS1) ?_
        (try simp only [Act.put, List.setIfInBounds_toArray, List.set_cons_zero, List.set_cons_succ])
        refine wpAnyN_one (i := 0) (by kernel_rfl) rfl (fun K2 hK2 => ?_)
        simp only [List.getElem_toArray, List.getElem_cons_zero]
        go_simp
        have hS1b : (fun w' => w'.cell? ⟨w.heap.size, 0, none⟩ = some (.int .i64 last.kind) ∧ w'.cell? ⟨w.heap.size, 1, none⟩ = some (.int .i64 last.n) ∧ w'.cell? ⟨w.heap.size, 2, none⟩ = some (.string last.name) ∧ w'.cell? ⟨w.heap.size, 3, none⟩ = some (.int .i64 last.ar)) (((V.alloc (.cells #[.int .i64 last.kind, .int .i64 last.n, .string last.name, .int .i64 last.ar] 35)).alloc (.cells #[] 35)).drew) := ⟨(World.cell?_alloc_lt _ _ _ (by simp; omega)).trans hS1.1, (World.cell?_alloc_lt _ _ _ (by simp; omega)).trans hS1.2.1, (World.cell?_alloc_lt _ _ _ (by simp; omega)).trans hS1.2.2.1, (World.cell?_alloc_lt _ _ _ (by simp; omega)).trans hS1.2.2.2⟩
        refine hK2 _ _ (fun _ => hS1b) ?_
        (try simp only [Act.put, List.setIfInBounds_toArray, List.set_cons_zero, List.set_cons_succ])
        refine wpAnyN_one (i := 2) (by kernel_rfl) rfl (fun K4 hK4 => ?_)
        simp only [List.getElem_toArray, List.getElem_cons_zero, List.getElem_cons_succ]
        rw [if_pos (by rfl)]
        have hbW : Below V.heap.size V (((V.alloc (.cells #[.int .i64 last.kind, .int .i64 last.n, .string last.name, .int .i64 last.ar] 35)).alloc (.cells #[] 35)).drew) := bDrewN (bNext (bAlloc V _) (bAlloc _ _)) 1
        have hoW := World.ownsRow.drew (World.ownsRow_made (base := V.heap.size) (size := 4) (e := 35) (V.alloc (.cells #[.int .i64 last.kind, .int .i64 last.n, .string last.name, .int .i64 last.ar] 35)) #[] 0 (by simp) (by decide) rfl)
        (try simp only [World.heap_size_alloc, World.alloc_heap_size] at hoW)
        (try simp at hoW)
        refine wp_append_keys _ _ rfl V.heap.size (.slice (some ⟨V.heap.size + 1, 0, none⟩) 0 0) 0 [] rfl hoW A 499 c _ L rfl HNIL.out (HLV.out.below hbW) (by omega) (by simp; try omega) ?_
        intro v2 w2 hown2 hg2
        have hS2 : (fun w' => w'.cell? ⟨w.heap.size, 0, none⟩ = some (.int .i64 last.kind) ∧ w'.cell? ⟨w.heap.size, 1, none⟩ = some (.int .i64 last.n) ∧ w'.cell? ⟨w.heap.size, 2, none⟩ = some (.string last.name) ∧ w'.cell? ⟨w.heap.size, 3, none⟩ = some (.int .i64 last.ar)) w2 := ⟨(hg2.cell_far _ (by simp; omega) (by simp [Value.ownBlock]; omega)).trans hS1b.1, (hg2.cell_far _ (by simp; omega) (by simp [Value.ownBlock]; omega)).trans hS1b.2.1, (hg2.cell_far _ (by simp; omega) (by simp [Value.ownBlock]; omega)).trans hS1b.2.2.1, (hg2.cell_far _ (by simp; omega) (by simp [Value.ownBlock]; omega)).trans hS1b.2.2.2⟩
        have hb2 : Below V.heap.size V w2 := bGrown hbW hoW hg2 (by simp; try omega) (Nat.le_refl _)
        have zz2 := hb2.size
        refine hK4 _ _ (fun _ => hS2) ?_
        (try simp only [Act.put, List.setIfInBounds_toArray, List.set_cons_zero, List.set_cons_succ])
        have hown3 := hown2
        have hb3 := hb2
        have hS3 := hS2
        have hblk : Blk w2 V.heap.size 35 #[.int .i64 last.kind, .int .i64 last.n, .string last.name, .int .i64 last.ar] :=
          Blk.grown (w := ((V.alloc (.cells #[.int .i64 last.kind, .int .i64 last.n, .string last.name, .int .i64 last.ar] 35)).alloc (.cells #[] 35)).drew) ((Blk.new V 35 #[.int .i64 last.kind, .int .i64 last.n, .string last.name, .int .i64 last.ar]).alloc _) hg2 (by simp [Value.ownBlock])
        refine wpAnyN_one (i := 5) (by kernel_rfl) rfl (fun K5 hK5 => ?_)
        simp only [List.getElem_toArray, List.getElem_cons_zero, List.getElem_cons_succ]
        rw [if_pos (by rfl)]
        refine wp_append_keys _ _ rfl V.heap.size _ (0 + 499) _ rfl hown3 (some ⟨V.heap.size, 0, none⟩) 1 1 _ [last] rfl (fun h => by cases h) (keys_blk [last] hblk rfl (by simp)) (by omega) (by exact hb3.size) ?_
        intro v5 w5 hown5 hg5
        have zz3 := hb3.size
        (try simp only [World.heap_size_alloc] at zz3)
        have hS5 : (fun w' => w'.cell? ⟨w.heap.size, 0, none⟩ = some (.int .i64 last.kind) ∧ w'.cell? ⟨w.heap.size, 1, none⟩ = some (.int .i64 last.n) ∧ w'.cell? ⟨w.heap.size, 2, none⟩ = some (.string last.name) ∧ w'.cell? ⟨w.heap.size, 3, none⟩ = some (.int .i64 last.ar)) w5 := ⟨(hg5.cell_far _ (by simp; omega) (fun e => absurd (hown3.lt _ e.symm).1 (by show ¬ V.heap.size ≤ w.heap.size; omega))).trans hS3.1, (hg5.cell_far _ (by simp; omega) (fun e => absurd (hown3.lt _ e.symm).1 (by show ¬ V.heap.size ≤ w.heap.size; omega))).trans hS3.2.1, (hg5.cell_far _ (by simp; omega) (fun e => absurd (hown3.lt _ e.symm).1 (by show ¬ V.heap.size ≤ w.heap.size; omega))).trans hS3.2.2.1, (hg5.cell_far _ (by simp; omega) (fun e => absurd (hown3.lt _ e.symm).1 (by show ¬ V.heap.size ≤ w.heap.size; omega))).trans hS3.2.2.2⟩
        have hb5 : Below V.heap.size V w5 := bGrown hb3 hown3 hg5 (by exact hb3.size) (Nat.le_refl _)
        refine hK5 _ _ (fun _ => hS5) ?_
        (try simp only [Act.put, List.setIfInBounds_toArray, List.set_cons_zero, List.set_cons_succ])
        refine wpAnyN_one (i := 6) (by kernel_rfl) rfl (fun K6 hK6 => ?_)
        simp only [List.getElem_toArray, List.getElem_cons_zero, List.getElem_cons_succ]
        go_simp
        refine hK6 _ _ (fun h => absurd h (by decide)) ?_
        refine wpAnyN_done (by kernel_rfl) ?_ _
        have HF : Hid (w5.ownsRow V.heap.size 35 4 v5 (499 + 1) (keyCs (L ++ [last])) ∧ Below V.heap.size V w5) := Lib.hid ⟨by rw [keyCs_app]; simpa using hown5, hb5⟩
        clear hown5 hg5 hS5 hown3 hblk hS3 hb3 hown2 hg2 hS2 hb2 hoW hbW hS0 hb5
        go_wp2_with fail
        go_meet
        exact HF.out
    case rest =>
      obtain ⟨hown9, hb9⟩ := hcut
      obtain ⟨A9, c9, rfl, hk9⟩ := own_keys hown9 (by omega)
      have HK9 := Lib.hid hk9
      have HB9 := Lib.hid hb9
      have HX9 := Lib.hid (qx.below hb9 qx.lt)
      have HL9 := Lib.hid (ql2.below hb9 ql2.lt)
      have HKK9 := Lib.hid (qk2.below hb9 qk2.lt)
      clear hown9 hb9 hk9 qx ql2 qk2
      go_wp2_with fail
      refine (Build_any A9 _ c9 (L ++ [last]) _ HK9.out).mono ?_
      rintro e w5 ⟨⟨y, rfl, hy⟩, hb5⟩
      have hy0 := hy
      obtain ⟨B0, d0, B1, d1, B2, d2, rfl, -, -, -⟩ := hy
      obtain ⟨U, HU⟩ : ∃ U, Hid (U = w5.alloc (.cells #[.slice B0 (buildIx (L ++ [last])).all.length d0, .slice B1 (buildIx (L ++ [last])).rows.length d1, .slice B2 (buildIx (L ++ [last])).rest.length d2] 26)) := ⟨_, rfl⟩
      obtain ⟨N2, HN2⟩ : ∃ N2, Hid (N2 = w5.heap.size) := ⟨_, rfl⟩
      have hbU5 : Below w5.heap.size w5 U := by rw [HU.out]; exact bAlloc _ _
      have hb9U := bNext hb5 hbU5
      have hbVU := bNext HB9.out hb9U
      have ST0 : Hid (ApSt w U N N2 last k A0 c0 A1 c1 A2 c2 B0 d0 B1 d1 B2 d2 X (buildIx (L ++ [last]))) := Lib.hid
        ⟨HL9.out.below hb9U HL9.out.lt, HKK9.out.below hb9U HKK9.out.lt, HX9.out.below hb9U HX9.out.lt, by rw [HU.out, HN2.out]; exact Blk.new _ _ _, (HIX.out.below hbVU).more hbVU.size, (hy0.below hbU5).more hbU5.size, bNext HBV.out hbVU⟩
      have QL5 := Lib.hid (HL9.out.below hb5 HL9.out.lt)
      clear hy0 hb5 hbU5 hb9U hbVU HL9 HKK9 HX9 HIX
      obtain ⟨Y, HY⟩ : ∃ Y, Hid (Y = buildIx (L ++ [last])) := ⟨_, rfl⟩
      rw [← HY.out] at ST0 HU ⊢
      obtain ⟨F, HF⟩ : ∃ F, Hid (F = buildE (L ++ [last])) := ⟨_, rfl⟩
      rw [← HF.out]
      have hF := buildE_app L last (by omega)
      rw [← HF.out] at hF
      cases hA : L.all okK
      · have e1 : E = 1 := by rw [HE.out]; unfold buildE; rw [hA]; rfl
        rw [hA] at hF
        simp only [Bool.false_and, Bool.false_eq_true, if_false] at hF
        subst e1 hF
        go_wp2_with fail
        rw [← HU.out]
        go_ret
        exact ⟨rfl, ST0.out.bel⟩
      · have e1 : E = 0 := by rw [HE.out]; unfold buildE; rw [hA, if_pos rfl, if_pos (by omega)]
        have HXL : Hid (X = ixOf L) := Lib.hid (by rw [HX.out]; unfold buildIx; rw [hA, decide_eq_true (by omega : L.length ≤ 500)]; rfl)
        rw [hA, Bool.true_and] at hF
        have HA := Lib.hid hA
        clear hA
        subst e1
        have HFF := Lib.hid hF
        clear hF
        have l0 : w5.cell? ⟨w.heap.size, 0, none⟩ = some (.int .i64 last.kind) := by rw [QL5.out.cell]; rfl
        have l1 : w5.cell? ⟨w.heap.size, 1, none⟩ = some (.int .i64 last.n) := by rw [QL5.out.cell]; rfl
        have l2 : w5.cell? ⟨w.heap.size, 2, none⟩ = some (.string last.name) := by rw [QL5.out.cell]; rfl
        have l3 : w5.cell? ⟨w.heap.size, 3, none⟩ = some (.int .i64 last.ar) := by rw [QL5.out.cell]; rfl
        have zl := QL5.out.lt
        go_wp2_with fail
        rw [← HU.out, ← HN2.out]
        clear l0 l1 l2 l3 zl
        refine (validKey_any last _).mono ?_
        rintro e w6 ⟨rfl, hb6⟩
        have ST1 := Lib.hid (ST0.out.next hb6)
        clear hb6
        cases hlast : okK last
        · have hF : F = 1 := by rw [HFF.out, hlast]; rfl
          subst hF
          go_wp2_with fail
          go_ret
          exact ⟨rfl, ST1.out.bel⟩
        · have hF : F = 0 := by rw [HFF.out, hlast]; rfl
          subst hF
          have HYL : Hid (Y = ixOf (L ++ [last])) := Lib.hid (by rw [HY.out]; unfold buildIx; rw [List.all_append, HA.out, List.all_cons, hlast, decide_eq_true (by simp; omega : (L ++ [last]).length ≤ 500)]; rfl)
          have HAL : Hid ((L ++ [last]).all okK = true) := Lib.hid (by rw [List.all_append, HA.out, List.all_cons, hlast]; rfl)
          obtain ⟨x0, x1, x2⟩ := ST1.out.cx
          obtain ⟨k0, k1, k2, k3⟩ := ST1.out.ck
          clear hlast
          go_wp2_with fail
          clear x0 x1 x2 k0 k1 k2 k3
          refine (Select_own _ X k _ ST1.out.ix).mono ?_
          rintro e w7 ⟨⟨vl, rfl, hvl⟩, hb7⟩
          have ST2 := Lib.hid (ST1.out.next hb7)
          have z67 := hb7.size
          have HB7 := Lib.hid hb7
          clear hb7
          obtain ⟨Al, cl, rfl⟩ := own_form hvl
          have HVL := Lib.hid hvl
          clear hvl
          obtain ⟨k0, k1, k2, k3⟩ := ST2.out.ck
          obtain ⟨S, HS⟩ : ∃ S, Hid (S = selIx (validIx X) X k) := ⟨_, rfl⟩
          rw [← HS.out] at HVL ⊢
          go_wp2_with fail
          clear k0 k1 k2 k3
          refine (validKey_any k _).mono ?_
          rintro e w8 ⟨rfl, hb8⟩
          have ST3 := Lib.hid (ST2.out.next hb8)
          have HVL3 := Lib.hid (own_below HVL.out hb8)
          have z78 := hb8.size
          have HB8 := Lib.hid (bNext HB7.out hb8)
          clear hb8
          cases hok : okK k
          · have hS0 : S = [] := by rw [HS.out]; exact sel_bad (.inr hok)
            subst hS0
            go_wp2_with fail
            go_ret
            exact ⟨rfl, ST3.out.bel⟩
          · have HSL : Hid (S = listTo L k L.length) := Lib.hid (by rw [HS.out, HXL.out, valid_of_good ⟨L, HA.out, by omega, rfl⟩, sel_ixOf HA.out hok])
            have HSY : Hid (selIx (validIx Y) Y k = listTo (L ++ [last]) k (L.length + 1)) := Lib.hid (by rw [HYL.out, valid_of_good ⟨L ++ [last], HAL.out, by simp; omega, rfl⟩, sel_ixOf HAL.out hok]; simp)
            have hSl : S.length ≤ 499 := by rw [HSL.out]; have := listTo_len L k L.length; omega
            have HAPP := Lib.hid (listTo_app L last k)
            obtain ⟨k0, k1, k2, k3⟩ := ST3.out.ck
            obtain ⟨l0, l1, l2, l3⟩ := ST3.out.cl
            clear hok
            go_wp2_with fail
            clear k0 k1 k2 k3 l0 l1 l2 l3
            refine (matches_any last k _).mono ?_
            rintro e w10 ⟨rfl, hb10⟩
            have ST4 := Lib.hid (ST3.out.next hb10)
            have HVL4 := Lib.hid (own_below HVL3.out hb10)
            have z810 := hb10.size
            have HB10 := Lib.hid (bNext HB8.out hb10)
            clear hb10
            cases hm : matK last k
            · have HSE : Hid (selIx (validIx Y) Y k = S) := Lib.hid (by rw [HSY.out, HAPP.out, HSL.out, hm]; simp)
              clear hm
              obtain ⟨y0, y1, y2⟩ := ST4.out.cy
              obtain ⟨k0, k1, k2, k3⟩ := ST4.out.ck
              obtain ⟨Al2, cl2, e2, hli⟩ := own_ints HVL4.out (by omega)
              injection e2 with e2 _ e3
              subst e2 e3
              have HLI := Lib.hid hli
              clear hli
              go_wp2_with fail
              clear k0 k1 k2 k3 y0 y1 y2
              refine (Select_any _ Y k _ ST4.out.iy).mono ?_
              rintro e w11 ⟨⟨B1', n1', d1', rfl, hs1⟩, hb11⟩
              rw [HSE.out] at hs1
              have HS1 := Lib.hid hs1
              have HB11 := Lib.hid hb11
              clear hs1 hb11
              go_wp2_with fail
              refine (same_any B1' Al n1' _ d1' cl S S _ HS1.out ((HLI.out.below HB11.out).more HB11.out.size)).mono ?_
              rintro e w12 ⟨rfl, q12, e12⟩
              rw [show sameL S S = true from decide_eq_true rfl]
              have HB12 : Hid (Below w11.heap.size w11 w12) := Lib.hid (by rw [e12]; exact bDrewN (Below.refl _ _) q12)
              clear e12
              go_wp2_with fail
              go_ret
              exact ⟨rfl, bNext ST4.out.bel (bNext HB11.out HB12.out)⟩
            · have HSE : Hid (selIx (validIx Y) Y k = S ++ [(499 : Int)]) := Lib.hid (by rw [HSY.out, HAPP.out, HSL.out, hm]; simp [hll])
              clear hm
              go_wp2_with (at_builtin; refine wpList_append_own _ rfl (.tmp 61) (.tmp 64) 23 rfl w6.heap.size 3 i0 (.int .i64 0) 1 8 Try.underlying23 hi hz0 hz1 hz2 rfl (by decide) _ _ _ rfl (HVL4.out.alloc _) ⟨w10.heap.size, 0, none⟩ 1 1 [.int .i64 (499 : Int)] rfl rfl ?c1X ?c2X ?c3X ?c4X ?c5X ?_)
              case c1X => exact cell_one_new _ _ _
              case c2X => simp [Value.oneCell']
              case c3X => unfold maxLen; omega
              case c4X => omega
              case c5X => simp; omega
              intro v13 w13 hown13 hg13 _
              have hb13 : Below w6.heap.size w6 w13 := bGrown (w := w10.alloc (.cells #[.int .i64 (499 : Int)] 3)) (bNext HB10.out (bAlloc _ _)) (HVL4.out.alloc _) hg13 (by simp; omega) (Nat.le_refl _)
              have ST5 := Lib.hid (ST1.out.next hb13)
              have hown14 : w13.ownsRow w6.heap.size 3 1 v13 (S ++ [(499 : Int)]).length ((S ++ [(499 : Int)]).map (.int .i64)) := by
                rw [List.map_append, List.length_append]; exact hown13
              obtain ⟨Al2, cl2, rfl, hli⟩ := own_ints hown14 (by simp; omega)
              have HLI := Lib.hid hli
              clear hli hown13 hown14 hg13 hb13
              obtain ⟨y0, y1, y2⟩ := ST5.out.cy
              obtain ⟨k0, k1, k2, k3⟩ := ST5.out.ck
              obtain ⟨T, HT⟩ : ∃ T, Hid (T = S ++ [(499 : Int)]) := ⟨_, rfl⟩
              rw [← HT.out] at HLI HSE ⊢
              go_wp2_with fail
              clear k0 k1 k2 k3 y0 y1 y2
              refine (Select_any _ Y k _ ST5.out.iy).mono ?_
              rintro e w14 ⟨⟨B1', n1', d1', rfl, hs1⟩, hb14⟩
              rw [HSE.out] at hs1
              have HS1 := Lib.hid hs1
              have HB14 := Lib.hid hb14
              clear hs1 hb14
              go_wp2_with fail
              refine (same_any B1' Al2 n1' _ d1' cl2 T T _ HS1.out ((HLI.out.below HB14.out).more HB14.out.size)).mono ?_
              rintro e w15 ⟨rfl, q15, e15⟩
              rw [show sameL T T = true from decide_eq_true rfl]
              have HB15 : Hid (Below w14.heap.size w14 w15) := Lib.hid (by rw [e15]; exact bDrewN (Below.refl _ _) q15)
              clear e15
              go_wp2_with fail
              go_ret
              exact ⟨rfl, bNext ST5.out.bel (bNext HB14.out HB15.out)⟩
  · obtain ⟨L, hL⟩ : ∃ L, KeysAt w w.heap.size A n L := ⟨_, ha.take (by omega)⟩
    have hM5 : n ≤ 499 := by omega
    have hll : L.length = n := hL.1.1
    have hL1 := (hL.below HB1.out).more HB1.out.size
    refine (Build_any A n c L _ hL1).mono ?_
    rintro e w3 ⟨⟨v, rfl, hv⟩, hb3⟩
    have hv0 := hv
    obtain ⟨A0, c0, A1, c1, A2, c2, rfl, -, -, -⟩ := hv
    obtain ⟨V, HV⟩ : ∃ V, Hid (V = w3.alloc (.cells #[.slice A0 (buildIx L).all.length c0, .slice A1 (buildIx L).rows.length c1, .slice A2 (buildIx L).rest.length c2] 26)) := ⟨_, rfl⟩
    obtain ⟨N, HN⟩ : ∃ N, Hid (N = w3.heap.size) := ⟨_, rfl⟩
    have hbV3 : Below w3.heap.size w3 V := by rw [HV.out]; exact bAlloc _ _
    have hb1V := bNext hb3 hbV3
    have hbV : Below w.heap.size w V := bNext HB1.out hb1V
    have qx : Blk V N 26 #[.slice A0 (buildIx L).all.length c0, .slice A1 (buildIx L).rows.length c1, .slice A2 (buildIx L).rest.length c2] := by rw [HV.out, HN.out]; exact Blk.new _ _ _
    have ql2 := ql1.below hb1V ql1.lt
    have qk2 := qk1.below hb1V qk1.lt
    have HIX := Lib.hid ((hv0.below hbV3).more hbV3.size)
    have HBV := Lib.hid hbV
    have HLV := Lib.hid ((hL.below hbV).more hbV.size)
    clear hv0 hb3 hbV3 hbV hL ha hL1 hb1V ql1 qk1
    obtain ⟨X, HX⟩ : ∃ X, Hid (X = buildIx L) := ⟨_, rfl⟩
    rw [← HX.out] at qx HIX HV ⊢
    obtain ⟨E, HE⟩ : ∃ E, Hid (E = buildE L) := ⟨_, rfl⟩
    rw [← HE.out]
    go_wp2_with fail
    rw [← HV.out, ← HN.out]
    go_cut [9] from 25 to 30 (fun s9 wx => wx.ownsRow V.heap.size 35 4 s9 (n + 1) (keyCs (L ++ [last])) ∧ Below V.heap.size V wx)
    case first =>
      have zl := ql2.lt
      have l0 : V.cell? ⟨w.heap.size, 0, none⟩ = some (.int .i64 last.kind) := by rw [ql2.cell]; rfl
      have l1 : V.cell? ⟨w.heap.size, 1, none⟩ = some (.int .i64 last.n) := by rw [ql2.cell]; rfl
      have l2 : V.cell? ⟨w.heap.size, 2, none⟩ = some (.string last.name) := by rw [ql2.cell]; rfl
      have l3 : V.cell? ⟨w.heap.size, 3, none⟩ = some (.int .i64 last.ar) := by rw [ql2.cell]; rfl
      refine wp_region_N (fun w' => w'.cell? ⟨w.heap.size, 0, none⟩ = some (.int .i64 last.kind) ∧ w'.cell? ⟨w.heap.size, 1, none⟩ = some (.int .i64 last.n) ∧ w'.cell? ⟨w.heap.size, 2, none⟩ = some (.string last.name) ∧ w'.cell? ⟨w.heap.size, 3, none⟩ = some (.int .i64 last.ar)) (fun i => i != 6) (by kernel_rfl) ?_
      have hS0 : (fun w' => w'.cell? ⟨w.heap.size, 0, none⟩ = some (.int .i64 last.kind) ∧ w'.cell? ⟨w.heap.size, 1, none⟩ = some (.int .i64 last.n) ∧ w'.cell? ⟨w.heap.size, 2, none⟩ = some (.string last.name) ∧ w'.cell? ⟨w.heap.size, 3, none⟩ = some (.int .i64 last.ar)) V.drew := ⟨l0, l1, l2, l3⟩
      refine wpAnyN_take (i := 3) (v := ?v3) rfl (by kernel_rfl) (by kernel_rfl) (by kernel_rfl) (by kernel_rfl) (fun _ _ _ h => h) (Or.inl ⟨by rfl, ?hy3⟩) (by assumption) ?_
      case hy3 => intro w hSw; (try dsimp only at hSw); go_simp; try with_reducible rfl
      simp only [Act.put, List.getElem_toArray, List.getElem_cons_zero, List.getElem_cons_succ, List.setIfInBounds_toArray, List.set_cons_zero, List.set_cons_succ]
      refine wpAnyN_take (i := 1) (v := ?v4) rfl (by kernel_rfl) (by kernel_rfl) (by kernel_rfl) (by kernel_rfl) (fun _ _ _ h => h) (Or.inl ⟨by rfl, ?hy4⟩) (by assumption) ?_
      case hy4 => intro w hSw; (try dsimp only at hSw); go_simp; try with_reducible rfl
      simp only [Act.put, List.getElem_toArray, List.getElem_cons_zero, List.getElem_cons_succ, List.setIfInBounds_toArray, List.set_cons_zero, List.set_cons_succ]
      refine wpAnyN_two (i := 0) (j := 4) (by kernel_rfl) rfl rfl (fun K1 hK1 => ?_) (fun K1 hK1 => ?_)
      · simp only [List.getElem_toArray, List.getElem_cons_zero]
        go_simp
        have hS1 : (fun w' => w'.cell? ⟨w.heap.size, 0, none⟩ = some (.int .i64 last.kind) ∧ w'.cell? ⟨w.heap.size, 1, none⟩ = some (.int .i64 last.n) ∧ w'.cell? ⟨w.heap.size, 2, none⟩ = some (.string last.name) ∧ w'.cell? ⟨w.heap.size, 3, none⟩ = some (.int .i64 last.ar)) ((V.alloc (.cells #[] 35)).drew) := ⟨(World.cell?_alloc_lt _ _ _ (by simp; omega)).trans hS0.1, (World.cell?_alloc_lt _ _ _ (by simp; omega)).trans hS0.2.1, (World.cell?_alloc_lt _ _ _ (by simp; omega)).trans hS0.2.2.1, (World.cell?_alloc_lt _ _ _ (by simp; omega)).trans hS0.2.2.2⟩
        refine hK1 _ _ (fun _ => hS1) ?_
        (try simp only [Act.put, List.setIfInBounds_toArray, List.set_cons_zero, List.set_cons_succ])
        refine wpAnyN_two (i := 2) (j := 4) (by kernel_rfl) rfl rfl (fun K2 hK2 => ?_) (fun K2 hK2 => ?_)
        · simp only [List.getElem_toArray, List.getElem_cons_zero, List.getElem_cons_succ]
          rw [if_pos (by rfl)]
          have hbW : Below V.heap.size V ((V.alloc (.cells #[] 35)).drew) := bDrewN (bAlloc V _) 1
          have hoW := World.ownsRow.drew (World.ownsRow_made (size := 4) (e := 35) V #[] 0 (Nat.le_refl V.heap.size) (by decide) rfl)
          (try simp only [World.heap_size_alloc, World.alloc_heap_size] at hoW)
          (try simp at hoW)
          refine wp_append_keys _ _ rfl V.heap.size (.slice (some ⟨V.heap.size, 0, none⟩) 0 0) 0 [] rfl hoW A n c _ L rfl HNIL.out (HLV.out.below hbW) (by omega) (by simp; try omega) ?_
          intro v2 w2 hown2 hg2
          have hS2 : (fun w' => w'.cell? ⟨w.heap.size, 0, none⟩ = some (.int .i64 last.kind) ∧ w'.cell? ⟨w.heap.size, 1, none⟩ = some (.int .i64 last.n) ∧ w'.cell? ⟨w.heap.size, 2, none⟩ = some (.string last.name) ∧ w'.cell? ⟨w.heap.size, 3, none⟩ = some (.int .i64 last.ar)) w2 := ⟨(hg2.cell_far _ (by simp; omega) (by simp [Value.ownBlock]; omega)).trans hS1.1, (hg2.cell_far _ (by simp; omega) (by simp [Value.ownBlock]; omega)).trans hS1.2.1, (hg2.cell_far _ (by simp; omega) (by simp [Value.ownBlock]; omega)).trans hS1.2.2.1, (hg2.cell_far _ (by simp; omega) (by simp [Value.ownBlock]; omega)).trans hS1.2.2.2⟩
          have hb2 : Below V.heap.size V w2 := bGrown hbW hoW hg2 (by simp; try omega) (Nat.le_refl _)
          have zz2 := hb2.size
          refine hK2 _ _ (fun _ => hS2) ?_
          (try simp only [Act.put, List.setIfInBounds_toArray, List.set_cons_zero, List.set_cons_succ])
          refine wpAnyN_one (i := 4) (by kernel_rfl) rfl (fun K4 hK4 => ?_)
          simp only [List.getElem_toArray, List.getElem_cons_zero, List.getElem_cons_succ]
          go_simp
          have hS3 : (fun w' => w'.cell? ⟨w.heap.size, 0, none⟩ = some (.int .i64 last.kind) ∧ w'.cell? ⟨w.heap.size, 1, none⟩ = some (.int .i64 last.n) ∧ w'.cell? ⟨w.heap.size, 2, none⟩ = some (.string last.name) ∧ w'.cell? ⟨w.heap.size, 3, none⟩ = some (.int .i64 last.ar)) (w2.alloc (.cells #[.int .i64 last.kind, .int .i64 last.n, .string last.name, .int .i64 last.ar] 35)) := ⟨(World.cell?_alloc_lt _ _ _ (by simp; omega)).trans hS2.1, (World.cell?_alloc_lt _ _ _ (by simp; omega)).trans hS2.2.1, (World.cell?_alloc_lt _ _ _ (by simp; omega)).trans hS2.2.2.1, (World.cell?_alloc_lt _ _ _ (by simp; omega)).trans hS2.2.2.2⟩
          refine hK4 _ _ (fun _ => hS3) ?_
          have hb3 : Below V.heap.size V (w2.alloc (.cells #[.int .i64 last.kind, .int .i64 last.n, .string last.name, .int .i64 last.ar] 35)) := bNext hb2 (bAlloc w2 _)
          have hown3 := hown2.alloc (.cells #[.int .i64 last.kind, .int .i64 last.n, .string last.name, .int .i64 last.ar] 35)
          have hblk := Blk.new w2 35 #[.int .i64 last.kind, .int .i64 last.n, .string last.name, .int .i64 last.ar]
          refine wpAnyN_one (i := 5) (by kernel_rfl) rfl (fun K5 hK5 => ?_)
          simp only [List.getElem_toArray, List.getElem_cons_zero, List.getElem_cons_succ]
          rw [if_pos (by rfl)]
          refine wp_append_keys _ _ rfl V.heap.size _ (0 + n) _ rfl hown3 (some ⟨w2.heap.size, 0, none⟩) 1 1 _ [last] rfl (fun h => by cases h) (keys_blk [last] hblk rfl (by simp)) (by omega) (by exact hb3.size) ?_
          intro v5 w5 hown5 hg5
          have zz3 := hb3.size
          (try simp only [World.heap_size_alloc] at zz3)
          have hS5 : (fun w' => w'.cell? ⟨w.heap.size, 0, none⟩ = some (.int .i64 last.kind) ∧ w'.cell? ⟨w.heap.size, 1, none⟩ = some (.int .i64 last.n) ∧ w'.cell? ⟨w.heap.size, 2, none⟩ = some (.string last.name) ∧ w'.cell? ⟨w.heap.size, 3, none⟩ = some (.int .i64 last.ar)) w5 := ⟨(hg5.cell_far _ (by simp; omega) (fun e => absurd (hown3.lt _ e.symm).1 (by show ¬ V.heap.size ≤ w.heap.size; omega))).trans hS3.1, (hg5.cell_far _ (by simp; omega) (fun e => absurd (hown3.lt _ e.symm).1 (by show ¬ V.heap.size ≤ w.heap.size; omega))).trans hS3.2.1, (hg5.cell_far _ (by simp; omega) (fun e => absurd (hown3.lt _ e.symm).1 (by show ¬ V.heap.size ≤ w.heap.size; omega))).trans hS3.2.2.1, (hg5.cell_far _ (by simp; omega) (fun e => absurd (hown3.lt _ e.symm).1 (by show ¬ V.heap.size ≤ w.heap.size; omega))).trans hS3.2.2.2⟩
          have hb5 : Below V.heap.size V w5 := bGrown hb3 hown3 hg5 (by exact hb3.size) (Nat.le_refl _)
          refine hK5 _ _ (fun _ => hS5) ?_
          (try simp only [Act.put, List.setIfInBounds_toArray, List.set_cons_zero, List.set_cons_succ])
          refine wpAnyN_one (i := 6) (by kernel_rfl) rfl (fun K6 hK6 => ?_)
          simp only [List.getElem_toArray, List.getElem_cons_zero, List.getElem_cons_succ]
          go_simp
          refine hK6 _ _ (fun h => absurd h (by decide)) ?_
          refine wpAnyN_done (by kernel_rfl) ?_ _
          have HF : Hid (w5.ownsRow V.heap.size 35 4 v5 (n + 1) (keyCs (L ++ [last])) ∧ Below V.heap.size V w5) := Lib.hid ⟨by rw [keyCs_app]; simpa using hown5, hb5⟩
          clear hown5 hg5 hS5 hown3 hblk hS3 hb3 hown2 hg2 hS2 hb2 hoW hbW hS0 hb5
          go_wp2_with fail
          go_meet
          exact HF.out
        · simp only [List.getElem_toArray, List.getElem_cons_zero, List.getElem_cons_succ]
          go_simp
          have hS1b : (fun w' => w'.cell? ⟨w.heap.size, 0, none⟩ = some (.int .i64 last.kind) ∧ w'.cell? ⟨w.heap.size, 1, none⟩ = some (.int .i64 last.n) ∧ w'.cell? ⟨w.heap.size, 2, none⟩ = some (.string last.name) ∧ w'.cell? ⟨w.heap.size, 3, none⟩ = some (.int .i64 last.ar)) (((V.alloc (.cells #[] 35)).alloc (.cells #[.int .i64 last.kind, .int .i64 last.n, .string last.name, .int .i64 last.ar] 35)).drew) := ⟨(World.cell?_alloc_lt _ _ _ (by simp; omega)).trans hS1.1, (World.cell?_alloc_lt _ _ _ (by simp; omega)).trans hS1.2.1, (World.cell?_alloc_lt _ _ _ (by simp; omega)).trans hS1.2.2.1, (World.cell?_alloc_lt _ _ _ (by simp; omega)).trans hS1.2.2.2⟩
          refine hK2 _ _ (fun _ => hS1b) ?_
          (try simp only [Act.put, List.setIfInBounds_toArray, List.set_cons_zero, List.set_cons_succ])
          refine wpAnyN_one (i := 2) (by kernel_rfl) rfl (fun K4 hK4 => ?_)
          simp only [List.getElem_toArray, List.getElem_cons_zero, List.getElem_cons_succ]
          rw [if_pos (by rfl)]
          have hbW : Below V.heap.size V (((V.alloc (.cells #[] 35)).alloc (.cells #[.int .i64 last.kind, .int .i64 last.n, .string last.name, .int .i64 last.ar] 35)).drew) := bDrewN (bNext (bAlloc V _) (bAlloc _ _)) 1
          have hoW := World.ownsRow.drew (World.ownsRow.alloc (World.ownsRow_made (size := 4) (e := 35) V #[] 0 (Nat.le_refl V.heap.size) (by decide) rfl) (.cells #[.int .i64 last.kind, .int .i64 last.n, .string last.name, .int .i64 last.ar] 35))
          (try simp only [World.heap_size_alloc, World.alloc_heap_size] at hoW)
          (try simp at hoW)
          refine wp_append_keys _ _ rfl V.heap.size (.slice (some ⟨V.heap.size, 0, none⟩) 0 0) 0 [] rfl hoW A n c _ L rfl HNIL.out (HLV.out.below hbW) (by omega) (by simp; try omega) ?_
          intro v2 w2 hown2 hg2
          have hS2 : (fun w' => w'.cell? ⟨w.heap.size, 0, none⟩ = some (.int .i64 last.kind) ∧ w'.cell? ⟨w.heap.size, 1, none⟩ = some (.int .i64 last.n) ∧ w'.cell? ⟨w.heap.size, 2, none⟩ = some (.string last.name) ∧ w'.cell? ⟨w.heap.size, 3, none⟩ = some (.int .i64 last.ar)) w2 := ⟨(hg2.cell_far _ (by simp; omega) (by simp [Value.ownBlock]; omega)).trans hS1b.1, (hg2.cell_far _ (by simp; omega) (by simp [Value.ownBlock]; omega)).trans hS1b.2.1, (hg2.cell_far _ (by simp; omega) (by simp [Value.ownBlock]; omega)).trans hS1b.2.2.1, (hg2.cell_far _ (by simp; omega) (by simp [Value.ownBlock]; omega)).trans hS1b.2.2.2⟩
          have hb2 : Below V.heap.size V w2 := bGrown hbW hoW hg2 (by simp; try omega) (Nat.le_refl _)
          have zz2 := hb2.size
          refine hK4 _ _ (fun _ => hS2) ?_
          (try simp only [Act.put, List.setIfInBounds_toArray, List.set_cons_zero, List.set_cons_succ])
          have hown3 := hown2
          have hb3 := hb2
          have hS3 := hS2
          have hblk : Blk w2 (V.heap.size + 1) 35 #[.int .i64 last.kind, .int .i64 last.n, .string last.name, .int .i64 last.ar] := by
            have := (Blk.new (V.alloc (.cells #[] 35)) 35 #[.int .i64 last.kind, .int .i64 last.n, .string last.name, .int .i64 last.ar])
            have e1 : (V.alloc (.cells #[] 35)).heap.size = V.heap.size + 1 := by simp
            rw [e1] at this
            exact Blk.grown (w := ((V.alloc (.cells #[] 35)).alloc (.cells #[.int .i64 last.kind, .int .i64 last.n, .string last.name, .int .i64 last.ar] 35)).drew) this hg2 (by simp [Value.ownBlock])
          refine wpAnyN_one (i := 5) (by kernel_rfl) rfl (fun K5 hK5 => ?_)
          simp only [List.getElem_toArray, List.getElem_cons_zero, List.getElem_cons_succ]
          rw [if_pos (by rfl)]
          refine wp_append_keys _ _ rfl V.heap.size _ (0 + n) _ rfl hown3 (some ⟨V.heap.size + 1, 0, none⟩) 1 1 _ [last] rfl (fun h => by cases h) (keys_blk [last] hblk rfl (by simp)) (by omega) (by exact hb3.size) ?_
          intro v5 w5 hown5 hg5
          have zz3 := hb3.size
          (try simp only [World.heap_size_alloc] at zz3)
          have hS5 : (fun w' => w'.cell? ⟨w.heap.size, 0, none⟩ = some (.int .i64 last.kind) ∧ w'.cell? ⟨w.heap.size, 1, none⟩ = some (.int .i64 last.n) ∧ w'.cell? ⟨w.heap.size, 2, none⟩ = some (.string last.name) ∧ w'.cell? ⟨w.heap.size, 3, none⟩ = some (.int .i64 last.ar)) w5 := ⟨(hg5.cell_far _ (by simp; omega) (fun e => absurd (hown3.lt _ e.symm).1 (by show ¬ V.heap.size ≤ w.heap.size; omega))).trans hS3.1, (hg5.cell_far _ (by simp; omega) (fun e => absurd (hown3.lt _ e.symm).1 (by show ¬ V.heap.size ≤ w.heap.size; omega))).trans hS3.2.1, (hg5.cell_far _ (by simp; omega) (fun e => absurd (hown3.lt _ e.symm).1 (by show ¬ V.heap.size ≤ w.heap.size; omega))).trans hS3.2.2.1, (hg5.cell_far _ (by simp; omega) (fun e => absurd (hown3.lt _ e.symm).1 (by show ¬ V.heap.size ≤ w.heap.size; omega))).trans hS3.2.2.2⟩
          have hb5 : Below V.heap.size V w5 := bGrown hb3 hown3 hg5 (by exact hb3.size) (Nat.le_refl _)
          refine hK5 _ _ (fun _ => hS5) ?_
          (try simp only [Act.put, List.setIfInBounds_toArray, List.set_cons_zero, List.set_cons_succ])
          refine wpAnyN_one (i := 6) (by kernel_rfl) rfl (fun K6 hK6 => ?_)
          simp only [List.getElem_toArray, List.getElem_cons_zero, List.getElem_cons_succ]
          go_simp
          refine hK6 _ _ (fun h => absurd h (by decide)) ?_
          refine wpAnyN_done (by kernel_rfl) ?_ _
          have HF : Hid (w5.ownsRow V.heap.size 35 4 v5 (n + 1) (keyCs (L ++ [last])) ∧ Below V.heap.size V w5) := Lib.hid ⟨by rw [keyCs_app]; simpa using hown5, hb5⟩
          clear hown5 hg5 hS5 hown3 hblk hS3 hb3 hown2 hg2 hS2 hb2 hoW hbW hS0 hb5
          go_wp2_with fail
          go_meet
          exact HF.out
      · simp only [List.getElem_toArray, List.getElem_cons_zero, List.getElem_cons_succ]
        go_simp
        have hS1 : (fun w' => w'.cell? ⟨w.heap.size, 0, none⟩ = some (.int .i64 last.kind) ∧ w'.cell? ⟨w.heap.size, 1, none⟩ = some (.int .i64 last.n) ∧ w'.cell? ⟨w.heap.size, 2, none⟩ = some (.string last.name) ∧ w'.cell? ⟨w.heap.size, 3, none⟩ = some (.int .i64 last.ar)) ((V.alloc (.cells #[.int .i64 last.kind, .int .i64 last.n, .string last.name, .int .i64 last.ar] 35)).drew) := ⟨(World.cell?_alloc_lt _ _ _ (by simp; omega)).trans hS0.1, (World.cell?_alloc_lt _ _ _ (by simp; omega)).trans hS0.2.1, (World.cell?_alloc_lt _ _ _ (by simp; omega)).trans hS0.2.2.1, (World.cell?_alloc_lt _ _ _ (by simp; omega)).trans hS0.2.2.2⟩
        refine hK1 _ _ (fun _ => hS1) ?_
        (try simp only [Act.put, List.setIfInBounds_toArray, List.set_cons_zero, List.set_cons_succ])
        refine wpAnyN_one (i := 0) (by kernel_rfl) rfl (fun K2 hK2 => ?_)
        simp only [List.getElem_toArray, List.getElem_cons_zero]
        go_simp
        have hS1b : (fun w' => w'.cell? ⟨w.heap.size, 0, none⟩ = some (.int .i64 last.kind) ∧ w'.cell? ⟨w.heap.size, 1, none⟩ = some (.int .i64 last.n) ∧ w'.cell? ⟨w.heap.size, 2, none⟩ = some (.string last.name) ∧ w'.cell? ⟨w.heap.size, 3, none⟩ = some (.int .i64 last.ar)) (((V.alloc (.cells #[.int .i64 last.kind, .int .i64 last.n, .string last.name, .int .i64 last.ar] 35)).alloc (.cells #[] 35)).drew) := ⟨(World.cell?_alloc_lt _ _ _ (by simp; omega)).trans hS1.1, (World.cell?_alloc_lt _ _ _ (by simp; omega)).trans hS1.2.1, (World.cell?_alloc_lt _ _ _ (by simp; omega)).trans hS1.2.2.1, (World.cell?_alloc_lt _ _ _ (by simp; omega)).trans hS1.2.2.2⟩
        refine hK2 _ _ (fun _ => hS1b) ?_
        (try simp only [Act.put, List.setIfInBounds_toArray, List.set_cons_zero, List.set_cons_succ])
        refine wpAnyN_one (i := 2) (by kernel_rfl) rfl (fun K4 hK4 => ?_)
        simp only [List.getElem_toArray, List.getElem_cons_zero, List.getElem_cons_succ]
        rw [if_pos (by rfl)]
        have hbW : Below V.heap.size V (((V.alloc (.cells #[.int .i64 last.kind, .int .i64 last.n, .string last.name, .int .i64 last.ar] 35)).alloc (.cells #[] 35)).drew) := bDrewN (bNext (bAlloc V _) (bAlloc _ _)) 1
        have hoW := World.ownsRow.drew (World.ownsRow_made (base := V.heap.size) (size := 4) (e := 35) (V.alloc (.cells #[.int .i64 last.kind, .int .i64 last.n, .string last.name, .int .i64 last.ar] 35)) #[] 0 (by simp) (by decide) rfl)
        (try simp only [World.heap_size_alloc, World.alloc_heap_size] at hoW)
        (try simp at hoW)
        refine wp_append_keys _ _ rfl V.heap.size (.slice (some ⟨V.heap.size + 1, 0, none⟩) 0 0) 0 [] rfl hoW A n c _ L rfl HNIL.out (HLV.out.below hbW) (by omega) (by simp; try omega) ?_
        intro v2 w2 hown2 hg2
        have hS2 : (fun w' => w'.cell? ⟨w.heap.size, 0, none⟩ = some (.int .i64 last.kind) ∧ w'.cell? ⟨w.heap.size, 1, none⟩ = some (.int .i64 last.n) ∧ w'.cell? ⟨w.heap.size, 2, none⟩ = some (.string last.name) ∧ w'.cell? ⟨w.heap.size, 3, none⟩ = some (.int .i64 last.ar)) w2 := ⟨(hg2.cell_far _ (by simp; omega) (by simp [Value.ownBlock]; omega)).trans hS1b.1, (hg2.cell_far _ (by simp; omega) (by simp [Value.ownBlock]; omega)).trans hS1b.2.1, (hg2.cell_far _ (by simp; omega) (by simp [Value.ownBlock]; omega)).trans hS1b.2.2.1, (hg2.cell_far _ (by simp; omega) (by simp [Value.ownBlock]; omega)).trans hS1b.2.2.2⟩
        have hb2 : Below V.heap.size V w2 := bGrown hbW hoW hg2 (by simp; try omega) (Nat.le_refl _)
        have zz2 := hb2.size
        refine hK4 _ _ (fun _ => hS2) ?_
        (try simp only [Act.put, List.setIfInBounds_toArray, List.set_cons_zero, List.set_cons_succ])
        have hown3 := hown2
        have hb3 := hb2
        have hS3 := hS2
        have hblk : Blk w2 V.heap.size 35 #[.int .i64 last.kind, .int .i64 last.n, .string last.name, .int .i64 last.ar] :=
          Blk.grown (w := ((V.alloc (.cells #[.int .i64 last.kind, .int .i64 last.n, .string last.name, .int .i64 last.ar] 35)).alloc (.cells #[] 35)).drew) ((Blk.new V 35 #[.int .i64 last.kind, .int .i64 last.n, .string last.name, .int .i64 last.ar]).alloc _) hg2 (by simp [Value.ownBlock])
        refine wpAnyN_one (i := 5) (by kernel_rfl) rfl (fun K5 hK5 => ?_)
        simp only [List.getElem_toArray, List.getElem_cons_zero, List.getElem_cons_succ]
        rw [if_pos (by rfl)]
        refine wp_append_keys _ _ rfl V.heap.size _ (0 + n) _ rfl hown3 (some ⟨V.heap.size, 0, none⟩) 1 1 _ [last] rfl (fun h => by cases h) (keys_blk [last] hblk rfl (by simp)) (by omega) (by exact hb3.size) ?_
        intro v5 w5 hown5 hg5
        have zz3 := hb3.size
        (try simp only [World.heap_size_alloc] at zz3)
        have hS5 : (fun w' => w'.cell? ⟨w.heap.size, 0, none⟩ = some (.int .i64 last.kind) ∧ w'.cell? ⟨w.heap.size, 1, none⟩ = some (.int .i64 last.n) ∧ w'.cell? ⟨w.heap.size, 2, none⟩ = some (.string last.name) ∧ w'.cell? ⟨w.heap.size, 3, none⟩ = some (.int .i64 last.ar)) w5 := ⟨(hg5.cell_far _ (by simp; omega) (fun e => absurd (hown3.lt _ e.symm).1 (by show ¬ V.heap.size ≤ w.heap.size; omega))).trans hS3.1, (hg5.cell_far _ (by simp; omega) (fun e => absurd (hown3.lt _ e.symm).1 (by show ¬ V.heap.size ≤ w.heap.size; omega))).trans hS3.2.1, (hg5.cell_far _ (by simp; omega) (fun e => absurd (hown3.lt _ e.symm).1 (by show ¬ V.heap.size ≤ w.heap.size; omega))).trans hS3.2.2.1, (hg5.cell_far _ (by simp; omega) (fun e => absurd (hown3.lt _ e.symm).1 (by show ¬ V.heap.size ≤ w.heap.size; omega))).trans hS3.2.2.2⟩
        have hb5 : Below V.heap.size V w5 := bGrown hb3 hown3 hg5 (by exact hb3.size) (Nat.le_refl _)
        refine hK5 _ _ (fun _ => hS5) ?_
        (try simp only [Act.put, List.setIfInBounds_toArray, List.set_cons_zero, List.set_cons_succ])
        refine wpAnyN_one (i := 6) (by kernel_rfl) rfl (fun K6 hK6 => ?_)
        simp only [List.getElem_toArray, List.getElem_cons_zero, List.getElem_cons_succ]
        go_simp
        refine hK6 _ _ (fun h => absurd h (by decide)) ?_
        refine wpAnyN_done (by kernel_rfl) ?_ _
        have HF : Hid (w5.ownsRow V.heap.size 35 4 v5 (n + 1) (keyCs (L ++ [last])) ∧ Below V.heap.size V w5) := Lib.hid ⟨by rw [keyCs_app]; simpa using hown5, hb5⟩
        clear hown5 hg5 hS5 hown3 hblk hS3 hb3 hown2 hg2 hS2 hb2 hoW hbW hS0 hb5
        go_wp2_with fail
        go_meet
        exact HF.out
    case rest =>
      obtain ⟨hown9, hb9⟩ := hcut
      obtain ⟨A9, c9, rfl, hk9⟩ := own_keys hown9 (by omega)
      have HK9 := Lib.hid hk9
      have HB9 := Lib.hid hb9
      have HX9 := Lib.hid (qx.below hb9 qx.lt)
      have HL9 := Lib.hid (ql2.below hb9 ql2.lt)
      have HKK9 := Lib.hid (qk2.below hb9 qk2.lt)
      clear hown9 hb9 hk9 qx ql2 qk2
      go_wp2_with fail
      refine (Build_any A9 _ c9 (L ++ [last]) _ HK9.out).mono ?_
      rintro e w5 ⟨⟨y, rfl, hy⟩, hb5⟩
      have hy0 := hy
      obtain ⟨B0, d0, B1, d1, B2, d2, rfl, -, -, -⟩ := hy
      obtain ⟨U, HU⟩ : ∃ U, Hid (U = w5.alloc (.cells #[.slice B0 (buildIx (L ++ [last])).all.length d0, .slice B1 (buildIx (L ++ [last])).rows.length d1, .slice B2 (buildIx (L ++ [last])).rest.length d2] 26)) := ⟨_, rfl⟩
      obtain ⟨N2, HN2⟩ : ∃ N2, Hid (N2 = w5.heap.size) := ⟨_, rfl⟩
      have hbU5 : Below w5.heap.size w5 U := by rw [HU.out]; exact bAlloc _ _
      have hb9U := bNext hb5 hbU5
      have hbVU := bNext HB9.out hb9U
      have ST0 : Hid (ApSt w U N N2 last k A0 c0 A1 c1 A2 c2 B0 d0 B1 d1 B2 d2 X (buildIx (L ++ [last]))) := Lib.hid
        ⟨HL9.out.below hb9U HL9.out.lt, HKK9.out.below hb9U HKK9.out.lt, HX9.out.below hb9U HX9.out.lt, by rw [HU.out, HN2.out]; exact Blk.new _ _ _, (HIX.out.below hbVU).more hbVU.size, (hy0.below hbU5).more hbU5.size, bNext HBV.out hbVU⟩
      have QL5 := Lib.hid (HL9.out.below hb5 HL9.out.lt)
      clear hy0 hb5 hbU5 hb9U hbVU HL9 HKK9 HX9 HIX
      obtain ⟨Y, HY⟩ : ∃ Y, Hid (Y = buildIx (L ++ [last])) := ⟨_, rfl⟩
      rw [← HY.out] at ST0 HU ⊢
      obtain ⟨F, HF⟩ : ∃ F, Hid (F = buildE (L ++ [last])) := ⟨_, rfl⟩
      rw [← HF.out]
      have hF := buildE_app L last (by omega)
      rw [← HF.out] at hF
      cases hA : L.all okK
      · have e1 : E = 1 := by rw [HE.out]; unfold buildE; rw [hA]; rfl
        rw [hA] at hF
        simp only [Bool.false_and, Bool.false_eq_true, if_false] at hF
        subst e1 hF
        go_wp2_with fail
        rw [← HU.out]
        go_ret
        exact ⟨rfl, ST0.out.bel⟩
      · have e1 : E = 0 := by rw [HE.out]; unfold buildE; rw [hA, if_pos rfl, if_pos (by omega)]
        have HXL : Hid (X = ixOf L) := Lib.hid (by rw [HX.out]; unfold buildIx; rw [hA, decide_eq_true (by omega : L.length ≤ 500)]; rfl)
        rw [hA, Bool.true_and] at hF
        have HA := Lib.hid hA
        clear hA
        subst e1
        have HFF := Lib.hid hF
        clear hF
        have l0 : w5.cell? ⟨w.heap.size, 0, none⟩ = some (.int .i64 last.kind) := by rw [QL5.out.cell]; rfl
        have l1 : w5.cell? ⟨w.heap.size, 1, none⟩ = some (.int .i64 last.n) := by rw [QL5.out.cell]; rfl
        have l2 : w5.cell? ⟨w.heap.size, 2, none⟩ = some (.string last.name) := by rw [QL5.out.cell]; rfl
        have l3 : w5.cell? ⟨w.heap.size, 3, none⟩ = some (.int .i64 last.ar) := by rw [QL5.out.cell]; rfl
        have zl := QL5.out.lt
        go_wp2_with fail
        rw [← HU.out, ← HN2.out]
        clear l0 l1 l2 l3 zl
        refine (validKey_any last _).mono ?_
        rintro e w6 ⟨rfl, hb6⟩
        have ST1 := Lib.hid (ST0.out.next hb6)
        clear hb6
        cases hlast : okK last
        · have hF : F = 1 := by rw [HFF.out, hlast]; rfl
          subst hF
          go_wp2_with fail
          go_ret
          exact ⟨rfl, ST1.out.bel⟩
        · have hF : F = 0 := by rw [HFF.out, hlast]; rfl
          subst hF
          have HYL : Hid (Y = ixOf (L ++ [last])) := Lib.hid (by rw [HY.out]; unfold buildIx; rw [List.all_append, HA.out, List.all_cons, hlast, decide_eq_true (by simp; omega : (L ++ [last]).length ≤ 500)]; rfl)
          have HAL : Hid ((L ++ [last]).all okK = true) := Lib.hid (by rw [List.all_append, HA.out, List.all_cons, hlast]; rfl)
          obtain ⟨x0, x1, x2⟩ := ST1.out.cx
          obtain ⟨k0, k1, k2, k3⟩ := ST1.out.ck
          clear hlast
          go_wp2_with fail
          clear x0 x1 x2 k0 k1 k2 k3
          refine (Select_own _ X k _ ST1.out.ix).mono ?_
          rintro e w7 ⟨⟨vl, rfl, hvl⟩, hb7⟩
          have ST2 := Lib.hid (ST1.out.next hb7)
          have z67 := hb7.size
          have HB7 := Lib.hid hb7
          clear hb7
          obtain ⟨Al, cl, rfl⟩ := own_form hvl
          have HVL := Lib.hid hvl
          clear hvl
          obtain ⟨k0, k1, k2, k3⟩ := ST2.out.ck
          obtain ⟨S, HS⟩ : ∃ S, Hid (S = selIx (validIx X) X k) := ⟨_, rfl⟩
          rw [← HS.out] at HVL ⊢
          go_wp2_with fail
          clear k0 k1 k2 k3
          refine (validKey_any k _).mono ?_
          rintro e w8 ⟨rfl, hb8⟩
          have ST3 := Lib.hid (ST2.out.next hb8)
          have HVL3 := Lib.hid (own_below HVL.out hb8)
          have z78 := hb8.size
          have HB8 := Lib.hid (bNext HB7.out hb8)
          clear hb8
          cases hok : okK k
          · have hS0 : S = [] := by rw [HS.out]; exact sel_bad (.inr hok)
            subst hS0
            go_wp2_with fail
            go_ret
            exact ⟨rfl, ST3.out.bel⟩
          · have HSL : Hid (S = listTo L k L.length) := Lib.hid (by rw [HS.out, HXL.out, valid_of_good ⟨L, HA.out, by omega, rfl⟩, sel_ixOf HA.out hok])
            have HSY : Hid (selIx (validIx Y) Y k = listTo (L ++ [last]) k (L.length + 1)) := Lib.hid (by rw [HYL.out, valid_of_good ⟨L ++ [last], HAL.out, by simp; omega, rfl⟩, sel_ixOf HAL.out hok]; simp)
            have hSl : S.length ≤ 499 := by rw [HSL.out]; have := listTo_len L k L.length; omega
            have HAPP := Lib.hid (listTo_app L last k)
            obtain ⟨k0, k1, k2, k3⟩ := ST3.out.ck
            obtain ⟨l0, l1, l2, l3⟩ := ST3.out.cl
            clear hok
            go_wp2_with fail
            clear k0 k1 k2 k3 l0 l1 l2 l3
            refine (matches_any last k _).mono ?_
            rintro e w10 ⟨rfl, hb10⟩
            have ST4 := Lib.hid (ST3.out.next hb10)
            have HVL4 := Lib.hid (own_below HVL3.out hb10)
            have z810 := hb10.size
            have HB10 := Lib.hid (bNext HB8.out hb10)
            clear hb10
            cases hm : matK last k
            · have HSE : Hid (selIx (validIx Y) Y k = S) := Lib.hid (by rw [HSY.out, HAPP.out, HSL.out, hm]; simp)
              clear hm
              obtain ⟨y0, y1, y2⟩ := ST4.out.cy
              obtain ⟨k0, k1, k2, k3⟩ := ST4.out.ck
              obtain ⟨Al2, cl2, e2, hli⟩ := own_ints HVL4.out (by omega)
              injection e2 with e2 _ e3
              subst e2 e3
              have HLI := Lib.hid hli
              clear hli
              go_wp2_with fail
              clear k0 k1 k2 k3 y0 y1 y2
              refine (Select_any _ Y k _ ST4.out.iy).mono ?_
              rintro e w11 ⟨⟨B1', n1', d1', rfl, hs1⟩, hb11⟩
              rw [HSE.out] at hs1
              have HS1 := Lib.hid hs1
              have HB11 := Lib.hid hb11
              clear hs1 hb11
              go_wp2_with fail
              refine (same_any B1' Al n1' _ d1' cl S S _ HS1.out ((HLI.out.below HB11.out).more HB11.out.size)).mono ?_
              rintro e w12 ⟨rfl, q12, e12⟩
              rw [show sameL S S = true from decide_eq_true rfl]
              have HB12 : Hid (Below w11.heap.size w11 w12) := Lib.hid (by rw [e12]; exact bDrewN (Below.refl _ _) q12)
              clear e12
              go_wp2_with fail
              go_ret
              exact ⟨rfl, bNext ST4.out.bel (bNext HB11.out HB12.out)⟩
            · have HSE : Hid (selIx (validIx Y) Y k = S ++ [(n : Int)]) := Lib.hid (by rw [HSY.out, HAPP.out, HSL.out, hm]; simp [hll])
              clear hm
              go_wp2_with (at_builtin; refine wpList_append_own _ rfl (.tmp 61) (.tmp 64) 23 rfl w6.heap.size 3 i0 (.int .i64 0) 1 8 Try.underlying23 hi hz0 hz1 hz2 rfl (by decide) _ _ _ rfl (HVL4.out.alloc _) ⟨w10.heap.size, 0, none⟩ 1 1 [.int .i64 (n : Int)] rfl rfl ?c1X ?c2X ?c3X ?c4X ?c5X ?_)
              case c1X => exact cell_one_new _ _ _
              case c2X => simp [Value.oneCell']
              case c3X => unfold maxLen; omega
              case c4X => omega
              case c5X => simp; omega
              intro v13 w13 hown13 hg13 _
              have hb13 : Below w6.heap.size w6 w13 := bGrown (w := w10.alloc (.cells #[.int .i64 (n : Int)] 3)) (bNext HB10.out (bAlloc _ _)) (HVL4.out.alloc _) hg13 (by simp; omega) (Nat.le_refl _)
              have ST5 := Lib.hid (ST1.out.next hb13)
              have hown14 : w13.ownsRow w6.heap.size 3 1 v13 (S ++ [(n : Int)]).length ((S ++ [(n : Int)]).map (.int .i64)) := by
                rw [List.map_append, List.length_append]; exact hown13
              obtain ⟨Al2, cl2, rfl, hli⟩ := own_ints hown14 (by simp; omega)
              have HLI := Lib.hid hli
              clear hli hown13 hown14 hg13 hb13
              obtain ⟨y0, y1, y2⟩ := ST5.out.cy
              obtain ⟨k0, k1, k2, k3⟩ := ST5.out.ck
              obtain ⟨T, HT⟩ : ∃ T, Hid (T = S ++ [(n : Int)]) := ⟨_, rfl⟩
              rw [← HT.out] at HLI HSE ⊢
              go_wp2_with fail
              clear k0 k1 k2 k3 y0 y1 y2
              refine (Select_any _ Y k _ ST5.out.iy).mono ?_
              rintro e w14 ⟨⟨B1', n1', d1', rfl, hs1⟩, hb14⟩
              rw [HSE.out] at hs1
              have HS1 := Lib.hid hs1
              have HB14 := Lib.hid hb14
              clear hs1 hb14
              go_wp2_with fail
              refine (same_any B1' Al2 n1' _ d1' cl2 T T _ HS1.out ((HLI.out.below HB14.out).more HB14.out.size)).mono ?_
              rintro e w15 ⟨rfl, q15, e15⟩
              rw [show sameL T T = true from decide_eq_true rfl]
              have HB15 : Hid (Below w14.heap.size w14 w15) := Lib.hid (by rw [e15]; exact bDrewN (Below.refl _ _) q15)
              clear e15
              go_wp2_with fail
              go_ret
              exact ⟨rfl, bNext ST5.out.bel (bNext HB14.out HB15.out)⟩
end Go.Proofs.Ytpkpdjekoghkcaa
