/-
  Walks: the variables of a term are listed.
-/
import Derived.Test.YtcagaaacfcpoeaaGreatTi
import Derived.Maps.AppendAt
namespace Go.Proofs.YtcagaaacfcpoeaaGreat
open Go.RowKit

/-- the place of a number in a list, or -1 -/
def posI (l : List Int) (y : Int) : Int := match l.findIdx? (· == y) with | some k => (k : Int) | none => -1
theorem posI_yes {l : List Int} {y x : Int} {k : Nat} (hk : l[k]? = some x) (e : x = y) (hp : ∀ (j : Nat) z, j < k → l[j]? = some z → z ≠ y) : posI l y = k := by
  unfold posI
  obtain ⟨hlt, hx⟩ := List.getElem?_eq_some_iff.1 hk
  rw [List.findIdx?_eq_some_iff_getElem.2 ⟨hlt, by simp [hx, e], fun j hj => by simpa using hp j _ hj (List.getElem?_eq_getElem (by omega))⟩]
theorem posI_no {l : List Int} {y : Int} (hp : ∀ (j : Nat) z, l[j]? = some z → z ≠ y) : posI l y = -1 := by
  unfold posI
  rw [List.findIdx?_eq_none_iff.2 fun x hx => by obtain ⟨j, hj⟩ := List.mem_iff_getElem?.1 hx; simpa using hp j x hj]
theorem posI_range (l : List Int) (y : Int) : -1 ≤ posI l y ∧ posI l y < l.length := by
  unfold posI
  cases h : l.findIdx? (· == y) with
  | none => simp; omega
  | some k => have := (List.findIdx?_eq_some_iff_getElem.1 h).1; simp; omega

set_option maxHeartbeats 400000 in
theorem position_any (A : Option Addr) (n c : Nat) (l : List Int) (y : Int) (w : World) (ha : IntsAt w w.heap.size A n l) :
    Calls Tryz.prog 121 #[.slice A n c, .int .i64 y] w fun e w' => e = .returned (.int .i64 (posI l y)) ∧ w = w' := by
  have hn := ha.1.2
  have hl := ha.1.1
  go_enter Tryz.func121, Tryz.ntmps121
  go_wp2
  go_loop [5] (fun i => ∃ k : Nat, k ≤ n ∧ i = .int .i64 k ∧ Hid (∀ j z, j < k → l[j]? = some z → z ≠ y)) (fun i => n - (intOf i).toNat)
  case atStart => exact ⟨0, by omega, rfl, Lib.hid fun j z h => absurd h (by omega)⟩
  case round =>
    obtain ⟨k, hk, rfl, HT⟩ := hrel
    by_cases hlt : k < n
    · obtain ⟨b, off, x, rfl, -, hx, h1⟩ := ha.at hlt
      have HX := Lib.hid hx
      clear hx ha
      go_wp2_with fail
      · have he : (x == y) = true := by assumption
        go_ret
        exact ⟨ret_int (posI_yes HX.out (by simpa using he) HT.out).symm, rfl⟩
      · have he : (x == y) = false := by assumption
        exact ⟨⟨k + 1, by omega, by go_num, Lib.hid fun j z hj hz => by
          rcases Nat.lt_or_ge j k with h | h
          · exact HT.out j z h hz
          · rw [show j = k by omega, HX.out] at hz
            injection hz with hz
            rw [← hz]
            simpa using he⟩, by simp [intOf]; omega⟩
    · have HP := Lib.hid (posI_no (l := l) (y := y) fun j z hz => HT.out j z (by have := (List.getElem?_eq_some_iff.1 hz).1; omega) hz)
      go_wp2_with fail
      go_ret
      exact ⟨ret_int HP.out.symm, rfl⟩

/-- the variables of a term that are not in a list are put at its end -/
def varsT : Tm → List Int → List Int
  | .mk k n _ a, l => go a (if (k == 0) = true ∧ posI l n < 0 then l ++ [n] else l)
where go : List Tm → List Int → List Int
  | [], l => l
  | x :: r, l => go r (varsT x l)
def varsTo (a : List Tm) (l : List Int) (i : Nat) : List Int := varsT.go (a.take i) l
theorem varsT_go_append (a b : List Tm) (l : List Int) : varsT.go (a ++ b) l = varsT.go b (varsT.go a l) := by
  induction a generalizing l with
  | nil => rfl
  | cons x r ih => simp [varsT.go, ih]
theorem varsTo_zero (a : List Tm) (l : List Int) : varsTo a l 0 = l := by simp [varsTo, varsT.go]
theorem varsTo_next {a : List Tm} {l : List Int} {i : Nat} {x : Tm} (h : a[i]? = some x) : varsTo a l (i + 1) = varsT x (varsTo a l i) := by
  unfold varsTo
  rw [List.take_add_one, h]
  simp [varsT_go_append, varsT.go]
theorem varsTo_all {a : List Tm} {l : List Int} {i : Nat} (h : a.length ≤ i) : varsTo a l i = varsT.go a l := by
  unfold varsTo; rw [List.take_of_length_le h]
/-- the list with the node's own number -/
def vars1 (t : Tm) (l : List Int) : List Int := if (t.kind == 0) = true ∧ posI l t.n < 0 then l ++ [t.n] else l
theorem varsT_eq (t : Tm) (l : List Int) : varsT t l = varsT.go t.args (vars1 t l) := by cases t; rfl
theorem vars1_len (t : Tm) (l : List Int) : (vars1 t l).length ≤ l.length + 1 := by unfold vars1; split <;> simp
theorem varsT_len (N : Nat) : ∀ (t : Tm) (l : List Int), cnt t < N → (varsT t l).length ≤ l.length + cnt t := by
  induction N with
  | zero => intro t l h; omega
  | succ N ih =>
    intro t l hN
    have hgo : ∀ (a : List Tm) (l : List Int), cnt.go a < N → (varsT.go a l).length ≤ l.length + cnt.go a := fun a => by
      induction a with
      | nil => intro l _; simp [varsT.go, cnt.go]
      | cons x r ihr =>
        intro l h
        simp only [cnt.go] at h
        have h1 := ih x l (by omega)
        have h2 := ihr (varsT x l) (by omega)
        simp only [varsT.go, cnt.go]
        omega
    have h1 := vars1_len t l
    have h2 := cnt_eq t
    have h3 := hgo t.args (vars1 t l) (by omega)
    rw [varsT_eq]
    omega
theorem varsTo_len (a : List Tm) (l : List Int) (i : Nat) : (varsTo a l i).length ≤ l.length + cntTo a i := by
  unfold varsTo cntTo
  generalize a.take i = b
  induction b generalizing l with
  | nil => simp [varsT.go, cnt.go]
  | cons x r ihr =>
    have h1 := varsT_len _ x l (Nat.lt_succ_self _)
    have h2 := ihr (varsT x l)
    simp only [varsT.go, cnt.go]
    omega

/-- the state while the variables are listed: the term's box, the list -/
structure Vs (w : World) (t : Tm) (A : Option Addr) (c B : Nat) (v0 v : Value) (n : Nat) (l : List Int) (wr : World) : Prop where
  own : wr.ownsRow B 2 1 v n (l.map (.int .i64))
  box : Blk wr w.heap.size 24 #[.int .i64 t.kind, .int .i64 t.n, .string t.name, .slice A t.args.length c]
  grown : w.grownBy wr v0.ownBlock
  at_ : v.ownBlock = v0.ownBlock ∨ ∀ g, v.ownBlock = some g → w.heap.size < g
theorem Vs.next {w wr w2 : World} {t : Tm} {A : Option Addr} {c B n n' : Nat} {v0 v v' : Value} {l l' : List Int} (h : Vs w t A c B v0 v n l wr) (ho : w2.ownsRow B 2 1 v' n' (l'.map (.int .i64))) (hg : wr.grownBy w2 v.ownBlock)
    (hat : v'.ownBlock = v.ownBlock ∨ ∀ g, v'.ownBlock = some g → wr.heap.size ≤ g) : Vs w t A c B v0 v' n' l' w2 := by
  have hz := h.box.lt
  refine ⟨ho, h.box.grown hg (own_ne h.own h.box (by decide)), ?_, ?_⟩
  · refine ⟨hg.os.trans h.grown.os, hg.tape.trans h.grown.tape, hg.output.trans h.grown.output, Nat.le_trans h.grown.size hg.size, fun b hb hne => (hg.block b (Nat.lt_of_lt_of_le hb h.grown.size) ?_).trans (h.grown.block b hb hne)⟩
    rcases h.at_ with e | e
    · rw [e]; exact hne
    · intro e2; have := e b e2.symm; omega
  · rcases hat with e | e
    · rw [e]; exact h.at_
    · exact .inr fun g hg => by have := e g hg; omega
theorem Vs.init {w : World} {t : Tm} {A : Option Addr} {c B n : Nat} {v : Value} {l : List Int} (ho : w.ownsRow B 2 1 v n (l.map (.int .i64))) : Vs w t A c B v v n l (w.alloc (t.o A c)) :=
  ⟨ho.alloc _, Blk.new _ _ _, gAlloc _ _ _, .inl rfl⟩
theorem info2 : (Tryz.prog.info? 2).map (fun i => (i.zero, i.size, i.bytes)) = some (some (.int .i64 0), 1, 8) := by kernel_rfl

set_option maxHeartbeats 1000000 in
theorem vars_any (N : Nat) : ∀ (t : Tm), cnt t < N → ∀ (A : Option Addr) (c B n : Nat) (v : Value) (l : List Int) (w : World), B ≤ w.heap.size → n + cnt t ≤ 8000 → w.ownsRow B 2 1 v n (l.map (.int .i64)) → ArgsAt w (Old B) A t.args →
    Calls Tryz.prog 98 #[v, t.v A c] w fun e w' => ∃ v' n', e = .returned v' ∧ w'.ownsRow B 2 1 v' n' ((varsT t l).map (.int .i64)) ∧ w.grownBy w' v.ownBlock ∧ (v'.ownBlock = v.ownBlock ∨ ∀ g, v'.ownBlock = some g → w.heap.size ≤ g) := by
  obtain ⟨i0, hi, hz0, hz1, hz2⟩ := info_parts info2
  induction N with
  | zero => intro t h; omega
  | succ N ih =>
    intro t hN A c B n v l w hB hbd ho ha
    have hlen := args_le t
    have hvB : ∀ g, v.ownBlock = some g → B ≤ g := fun g hg => (ho.lt g hg).1
    obtain ⟨Av, cv, rfl⟩ := own_form ho
    have HA := Lib.hid ha
    have HO := Lib.hid ho
    have HV := Lib.hid hvB
    have HE := Lib.hid (varsT_eq t l)
    have HL := Lib.hid (show l.length = n by simpa using ho.1)
    have hcl := cnt_eq t
    clear ha ho hvB
    cases hk0 : t.kind == 0
    · have HF := Lib.hid (show vars1 t l = l by simp [vars1, hk0])
      go_enter Tryz.func98, Tryz.ntmps98
      go_wp2_with fail
      go_loopw [0, 5] (fun s i wr => ∃ k, k ≤ t.args.length ∧ i = .int .i64 ((k : Nat) : Int) ∧ ∃ n', Vs w t A c B (.slice Av n cv) s n' (varsTo t.args (vars1 t l) k) wr) (fun _ i _ => t.args.length - (intOf i).toNat)
      case atStart => exact ⟨0, by omega, rfl, _, by rw [varsTo_zero]; rw [HF.out]; exact Vs.init HO.out⟩
      case round =>
        obtain ⟨k, hk, rfl, n', st⟩ := hrel
        obtain ⟨Ak, ck, rfl⟩ := own_form st.own
        have HS := Lib.hid st
        have hz := st.grown.size
        have zc := st.box.lt
        have p3 := st.box.cell 3
        simp at p3
        have hvl := varsTo_len t.args (vars1 t l) k
        have hv1 := vars1_len t l
        rw [HL.out] at hv1
        have hd : (varsTo t.args (vars1 t l) k).length = n' := by simpa using st.own.1
        rw [hd] at hvl
        clear hd st
        by_cases hlt : k < t.args.length
        · obtain ⟨b, off, x, A', c', rfl, hBb, hx, hx4, hA'⟩ := HA.out.at hlt
          have hBz : b < B := hBb
          have hkeep : ∀ q, q < B → wr.heap[q]? = w.heap[q]? := fun q hq => HS.out.grown.block q (by omega) (fun e => by have := HV.out q e.symm; omega)
          have hcell : ∀ o, wr.cell? ⟨b, o, none⟩ = w.cell? ⟨b, o, none⟩ := fun o => World.cell?_of_block (w := w) (w' := wr) (a := ⟨b, o, none⟩) (hkeep b hBz)
          obtain ⟨q0, q1, q2, q3⟩ := hx4
          rw [← hcell] at q0 q1 q2 q3
          have HX := Lib.hid hx
          have HC := Lib.hid (hA'.keep hkeep (fun _ h => h))
          have hxc := cntTo_next hx
          have hxl := cntTo_le t.args (k + 1)
          clear hx hA' hBb hkeep hcell
          go_wp2_with fail
          refine (ih x (by omega) A' c' B n' _ (varsTo t.args (vars1 t l) k) wr (by omega) (by omega) HS.out.own HC.out).mono ?_
          rintro e w2 ⟨v', n2, rfl, ho2, hg2, hat2⟩
          obtain ⟨A2, c2, rfl⟩ := own_form ho2
          have HF := Lib.hid (HS.out.next ho2 hg2 hat2)
          rw [← varsTo_next HX.out] at HF
          clear ho2 hg2 hat2
          go_wp2_with fail
          exact ⟨⟨k + 1, by omega, by go_num, _, HF.out⟩, by simp [intOf]; omega⟩
        · go_wp2_with fail
          go_ret
          refine ⟨_, n', rfl, ?_, HS.out.grown, ?_⟩
          · rw [HE.out, ← varsTo_all (i := k) (by omega)]; exact HS.out.own
          · rcases HS.out.at_ with e | e
            · exact .inl e
            · exact .inr fun g hg => by have := e g hg; omega
    · obtain ⟨A9, c9, e9, hI⟩ := own_ints HO.out (by omega)
      injection e9 with e9 _ e10
      subst e9 e10
      have HI := Lib.hid ((hI.below (bAlloc w (t.o A c))).more (by simp : w.heap.size ≤ (w.alloc (t.o A c)).heap.size))
      clear hI
      obtain ⟨p, hp⟩ : ∃ p, posI l t.n = p := ⟨_, rfl⟩
      by_cases hp0 : p < 0
      · have HF := Lib.hid (show vars1 t l = l ++ [t.n] by simp [vars1, hk0, hp, hp0])
        have HP := Lib.hid hp
        clear hp
        go_enter Tryz.func98, Tryz.ntmps98
        go_wp2_with fail
        refine (position_any _ _ _ _ _ _ HI.out).mono ?_
        rintro e w1 ⟨rfl, rfl⟩
        rw [HP.out]
        go_wp2_with (at_builtin; refine wpList_append_own_at _ rfl (.tmp 16) (.tmp 19) 50 rfl B 2 i0 (.int .i64 0) 1 8 Tryz.underlying50 hi hz0 hz1 hz2 rfl (by decide) _ _ _ rfl ((HO.out.alloc _).alloc _) ⟨w.heap.size + 1, 0, none⟩ 1 1 [.int .i64 t.n] rfl rfl ?c1 ?c2 ?c3 ?c4 ?c5 ?_)
        case c1 => have h := cell_one_new (w.alloc (t.o A c)) (.int .i64 t.n) 2; rwa [World.size_alloc] at h
        case c2 => simp [Value.oneCell']
        case c3 => unfold maxLen; omega
        case c4 => omega
        case c5 => simp; omega
        intro v' w3 hown' hg _ hat
        obtain ⟨A3, c3, rfl⟩ := own_form hown'
        have HS3 := Lib.hid ((Vs.init (t := t) (A := A) (c := c) HO.out).next (l' := l ++ [t.n]) (n' := n + 1) (by rw [List.map_append]; exact hown') (gTrans (gAlloc _ _ _) hg) (hat.elim .inl (fun e => .inr fun g hg => by rw [e] at hg; injection hg with hg; simp; omega)))
        clear hown' hg hat
        go_wp2_with fail
        go_loopw [0, 5] (fun s i wr => ∃ k, k ≤ t.args.length ∧ i = .int .i64 ((k : Nat) : Int) ∧ ∃ n', Vs w t A c B (.slice Av n cv) s n' (varsTo t.args (vars1 t l) k) wr) (fun _ i _ => t.args.length - (intOf i).toNat)
        case atStart => exact ⟨0, by omega, rfl, _, by rw [varsTo_zero]; rw [HF.out]; exact HS3.out⟩
        case round =>
          obtain ⟨k, hk, rfl, n', st⟩ := hrel
          obtain ⟨Ak, ck, rfl⟩ := own_form st.own
          have HS := Lib.hid st
          have hz := st.grown.size
          have zc := st.box.lt
          have p3 := st.box.cell 3
          simp at p3
          have hvl := varsTo_len t.args (vars1 t l) k
          have hv1 := vars1_len t l
          rw [HL.out] at hv1
          have hd : (varsTo t.args (vars1 t l) k).length = n' := by simpa using st.own.1
          rw [hd] at hvl
          clear hd st
          by_cases hlt : k < t.args.length
          · obtain ⟨b, off, x, A', c', rfl, hBb, hx, hx4, hA'⟩ := HA.out.at hlt
            have hBz : b < B := hBb
            have hkeep : ∀ q, q < B → wr.heap[q]? = w.heap[q]? := fun q hq => HS.out.grown.block q (by omega) (fun e => by have := HV.out q e.symm; omega)
            have hcell : ∀ o, wr.cell? ⟨b, o, none⟩ = w.cell? ⟨b, o, none⟩ := fun o => World.cell?_of_block (w := w) (w' := wr) (a := ⟨b, o, none⟩) (hkeep b hBz)
            obtain ⟨q0, q1, q2, q3⟩ := hx4
            rw [← hcell] at q0 q1 q2 q3
            have HX := Lib.hid hx
            have HC := Lib.hid (hA'.keep hkeep (fun _ h => h))
            have hxc := cntTo_next hx
            have hxl := cntTo_le t.args (k + 1)
            clear hx hA' hBb hkeep hcell
            go_wp2_with fail
            refine (ih x (by omega) A' c' B n' _ (varsTo t.args (vars1 t l) k) wr (by omega) (by omega) HS.out.own HC.out).mono ?_
            rintro e w2 ⟨v', n2, rfl, ho2, hg2, hat2⟩
            obtain ⟨A2, c2, rfl⟩ := own_form ho2
            have HF := Lib.hid (HS.out.next ho2 hg2 hat2)
            rw [← varsTo_next HX.out] at HF
            clear ho2 hg2 hat2
            go_wp2_with fail
            exact ⟨⟨k + 1, by omega, by go_num, _, HF.out⟩, by simp [intOf]; omega⟩
          · go_wp2_with fail
            go_ret
            refine ⟨_, n', rfl, ?_, HS.out.grown, ?_⟩
            · rw [HE.out, ← varsTo_all (i := k) (by omega)]; exact HS.out.own
            · rcases HS.out.at_ with e | e
              · exact .inl e
              · exact .inr fun g hg => by have := e g hg; omega
      · have HF := Lib.hid (show vars1 t l = l by simp [vars1, hp, hp0])
        have HP := Lib.hid hp
        clear hp
        go_enter Tryz.func98, Tryz.ntmps98
        go_wp2_with fail
        refine (position_any _ _ _ _ _ _ HI.out).mono ?_
        rintro e w1 ⟨rfl, rfl⟩
        rw [HP.out]
        go_wp2_with fail
        go_loopw [0, 5] (fun s i wr => ∃ k, k ≤ t.args.length ∧ i = .int .i64 ((k : Nat) : Int) ∧ ∃ n', Vs w t A c B (.slice Av n cv) s n' (varsTo t.args (vars1 t l) k) wr) (fun _ i _ => t.args.length - (intOf i).toNat)
        case atStart => exact ⟨0, by omega, rfl, _, by rw [varsTo_zero]; rw [HF.out]; exact Vs.init HO.out⟩
        case round =>
          obtain ⟨k, hk, rfl, n', st⟩ := hrel
          obtain ⟨Ak, ck, rfl⟩ := own_form st.own
          have HS := Lib.hid st
          have hz := st.grown.size
          have zc := st.box.lt
          have p3 := st.box.cell 3
          simp at p3
          have hvl := varsTo_len t.args (vars1 t l) k
          have hv1 := vars1_len t l
          rw [HL.out] at hv1
          have hd : (varsTo t.args (vars1 t l) k).length = n' := by simpa using st.own.1
          rw [hd] at hvl
          clear hd st
          by_cases hlt : k < t.args.length
          · obtain ⟨b, off, x, A', c', rfl, hBb, hx, hx4, hA'⟩ := HA.out.at hlt
            have hBz : b < B := hBb
            have hkeep : ∀ q, q < B → wr.heap[q]? = w.heap[q]? := fun q hq => HS.out.grown.block q (by omega) (fun e => by have := HV.out q e.symm; omega)
            have hcell : ∀ o, wr.cell? ⟨b, o, none⟩ = w.cell? ⟨b, o, none⟩ := fun o => World.cell?_of_block (w := w) (w' := wr) (a := ⟨b, o, none⟩) (hkeep b hBz)
            obtain ⟨q0, q1, q2, q3⟩ := hx4
            rw [← hcell] at q0 q1 q2 q3
            have HX := Lib.hid hx
            have HC := Lib.hid (hA'.keep hkeep (fun _ h => h))
            have hxc := cntTo_next hx
            have hxl := cntTo_le t.args (k + 1)
            clear hx hA' hBb hkeep hcell
            go_wp2_with fail
            refine (ih x (by omega) A' c' B n' _ (varsTo t.args (vars1 t l) k) wr (by omega) (by omega) HS.out.own HC.out).mono ?_
            rintro e w2 ⟨v', n2, rfl, ho2, hg2, hat2⟩
            obtain ⟨A2, c2, rfl⟩ := own_form ho2
            have HF := Lib.hid (HS.out.next ho2 hg2 hat2)
            rw [← varsTo_next HX.out] at HF
            clear ho2 hg2 hat2
            go_wp2_with fail
            exact ⟨⟨k + 1, by omega, by go_num, _, HF.out⟩, by simp [intOf]; omega⟩
          · go_wp2_with fail
            go_ret
            refine ⟨_, n', rfl, ?_, HS.out.grown, ?_⟩
            · rw [HE.out, ← varsTo_all (i := k) (by omega)]; exact HS.out.own
            · rcases HS.out.at_ with e | e
              · exact .inl e
              · exact .inr fun g hg => by have := e g hg; omega
end Go.Proofs.YtcagaaacfcpoeaaGreat
