/-
  A round of the law FramesViews behind a call that told no error, kind by kind.
-/
import Derived.Test.YtpkpffnabcgcbaaVo
import Derived.Test.YtpkpffnabcgcbaaVk
import Derived.Test.YtpkpffnabcgcbaaVm
namespace Go.Proofs.Ytpkpffnabcgcbaa
open Go.RowKit

/-- how a round stands behind a call that told no error -/
structure Ent (w0 w : World) (q2 q5 q8 q11 B b0 k c0 : Nat) (K : Array Value) (p p' : St) (x : Sp) (o : Ov) (va vb vc vd : Value) (A9 : Option Addr) (c9 : Nat) (yw : List Value) (An : Option Addr) (cn : Nat) (yn : List Value) (v6 : Value) (V : List (List En)) : Prop where
  hp : p' = (doV p x).1
  ho : o = (doV p x).2
  he : o.e = 0
  g : Good p
  inv : PInv p V
  len : V.length ≤ k
  k60 : k < 60
  chs : p.chs.length ≤ c0 + V.length
  c0le : c0 ≤ 1000000000000
  below : Below w0.heap.size w0 w
  k2 : Blk w q2 25 K
  k3 : ∃ A2 n2, K[2]? = some (.slice A2 c0 n2)
  vw : VW w B q5 p' v6 V (viewV p) (.slice A9 (viewV p).length c9) yw
  now : RowE w b0 (viewV p') (.slice An (viewV p').length cn) yn
  sep : ∀ g ∈ blks (.slice A9 (viewV p).length c9 :: yw), w0.heap.size ≤ g ∧ g < b0
  v6b : ∀ g, v6.ownBlock = some g → w0.heap.size ≤ g
  arg : w.rangeAt q8 0 [.int .i64 x.what, .int .i64 x.n, .int .i64 x.id, .int .i64 x.pc, .int .i64 x.c.tag, .int .i64 x.c.n, .int .i64 x.ch.kind, va, .int .i64 x.ch.env, .int .i64 x.ch.id, .int .i64 x.ch.pc, .int .i64 x.ch.cut, .int .i64 x.ch.mark, .int .i64 x.ch.top, .int .i64 x.ch.envs, vb, .int .i64 x.ch.data]
  out : w.rangeAt q11 0 [.int .i64 o.id, .int .i64 o.pc, .int .i64 o.c.tag, .int .i64 o.c.n, .int .i64 o.ch.kind, vc, .int .i64 o.ch.env, .int .i64 o.ch.id, .int .i64 o.ch.pc, .int .i64 o.ch.cut, .int .i64 o.ch.mark, .int .i64 o.ch.top, .int .i64 o.ch.envs, vd, .int .i64 o.ch.data, .int .i64 o.e]
  q8w : q8 < w.heap.size
  q11w : q11 < w.heap.size
/-- what a round leaves: the row of views, the view that is wanted, the stacks -/
def Rnd (w0 : World) (q2 : Nat) (K : Array Value) (c0 : Nat) (B q : Nat) (p : St) (An : Option Addr) (v s13 : Value) (k : Nat) (wx : World) : Prop := ∃ V A c, s13 = .slice A (viewV p).length c ∧ EnvsAt wx A (viewV p) ∧ EnvsAt wx An (viewV p) ∧ VSt wx B q p v V ∧ PInv p V ∧ V.length ≤ k + 1 ∧ p.chs.length ≤ c0 + V.length ∧ Below w0.heap.size w0 wx ∧ Blk wx q2 25 K ∧ ∀ g, v.ownBlock = some g → w0.heap.size ≤ g
section
variable {w0 w : World} {q2 q5 q8 q11 B b0 k c0 : Nat} {K : Array Value} {p p' : St} {x : Sp} {o : Ov} {va vb vc vd : Value} {A9 : Option Addr} {c9 : Nat} {yw : List Value} {An : Option Addr} {cn : Nat} {yn : List Value} {v6 : Value} {V : List (List En)}
theorem Ent.nowAt (E : Ent w0 w q2 q5 q8 q11 B b0 k c0 K p p' x o va vb vc vd A9 c9 yw An cn yn v6 V) : EnvsAt w An (viewV p') := by
  obtain ⟨A, c, e, h⟩ := E.now.at
  injection e with e1 _ _
  subst e1
  exact h
theorem Ent.wasAt (E : Ent w0 w q2 q5 q8 q11 B b0 k c0 K p p' x o va vb vc vd A9 c9 yw An cn yn v6 V) : EnvsAt w A9 (viewV p) ∧ RowE w 0 (viewV p) (.slice A9 (viewV p).length c9) yw := by
  obtain ⟨ve, vc, ys, cs, -, -, h3, -⟩ := E.vw
  obtain ⟨A, c, e, h⟩ := h3.at
  injection e with e1 _ _
  subst e1
  exact ⟨h, h3⟩
theorem Ent.good (E : Ent w0 w q2 q5 q8 q11 B b0 k c0 K p p' x o va vb vc vd A9 c9 yw An cn yn v6 V) : Good p' := by rw [E.hp]; exact good_do E.g
theorem Ent.blkne (E : Ent w0 w q2 q5 q8 q11 B b0 k c0 K p p' x o va vb vc vd A9 c9 yw An cn yn v6 V) : ∀ {e size n b : Nat} {v : Value} {xs : List Value} {g : Nat}, w.ownsRow b e size v n xs → e ≠ 25 → v.ownBlock = some g → g ≠ q2 := fun h he hg e => by
  obtain ⟨cs, hc⟩ := own_ty h hg
  rw [e] at hc
  have h2 : w.heap[q2]? = some (Obj.cells K 25 (0, 0)) := E.k2
  rw [hc] at h2; injection h2 with h2; injection h2 with _ h2; exact he h2
/-- memory stays as it is -/
theorem Ent.still (E : Ent w0 w q2 q5 q8 q11 B b0 k c0 K p p' x o va vb vc vd A9 c9 yw An cn yn v6 V) {V' : List (List En)} {v' s13 : Value} {A : Option Addr} {c : Nat} (nd : Nat) (h1 : s13 = .slice A (viewV p').length c) (h2 : EnvsAt w A (viewV p')) (h3 : VSt w B q5 p' v' V') (h4 : PInv p' V') (h5 : V'.length ≤ k + 1) (h6 : p'.chs.length ≤ c0 + V'.length)
    (h7 : ∀ g, v'.ownBlock = some g → w0.heap.size ≤ g) : Rnd w0 q2 K c0 B q5 p' An v' s13 k (w.drewN nd) :=
  ⟨V', A, c, h1, h2.next (drawn w nd), E.nowAt.next (drawn w nd), h3.next (drawn w nd), h4, h5, h6, bDrewN E.below nd, E.k2.next (drawn w nd), h7⟩
/-- a block of the view that was is changed -/
theorem Ent.turned (E : Ent w0 w q2 q5 q8 q11 B b0 k c0 K p p' x o va vb vc vd A9 c9 yw An cn yn v6 V) {w' : World} {ys : List Value} {g : Nat} {s13 : Value} (hs : ∃ A c, s13 = .slice A (viewV p').length c) (hr : RowE w' 0 (viewV p') s13 ys) (hg : w.grownBy w' (some g)) (hm : g ∈ blks (.slice A9 (viewV p).length c9 :: yw)) (hq : g ≠ q2) (h4 : PInv p' V) (h6 : p'.chs.length ≤ c0 + V.length) :
    Rnd w0 q2 K c0 B q5 p' An v6 s13 k w' := by
  obtain ⟨A, c, rfl⟩ := hs
  obtain ⟨A', c', e, hat⟩ := hr.at
  injection e with e1 _ _
  subst e1
  have hsep := E.sep g hm
  refine ⟨V, _, c, rfl, hat, ?_, E.vw.touch hg hm, h4, by have := E.len; omega, h6, E.below.grown hg E.below.size (fun k e => by injection e with e; omega), ?_, E.v6b⟩
  · obtain ⟨A2, c2, e, h⟩ := (E.now.stay (w' := w') fun k hk hl => hg.block k hl fun e => by injection e with e; omega).at
    injection e with e1 _ _
    subst e1
    exact h
  · exact (hg.block q2 E.k2.lt (fun e => by injection e with e; exact hq e.symm)).trans E.k2
theorem Ent.same (E : Ent w0 w q2 q5 q8 q11 B b0 k c0 K p p' x o va vb vc vd A9 c9 yw An cn yn v6 V) (h5 : x.what ≠ 5) (h6 : x.what ≠ 6) (h7 : x.what ≠ 7) : PInv p' V ∧ p'.chs.length ≤ c0 + V.length := by
  have hc : (doV p x).1.chs = p.chs := chs_do h5 h6 h7
  rw [E.hp]
  exact ⟨E.inv.same E.g x h6 h7 (by rw [hc]), by rw [hc]; exact E.chs⟩
theorem Ent.view_len (E : Ent w0 w q2 q5 q8 q11 B b0 k c0 K p p' x o va vb vc vd A9 c9 yw An cn yn v6 V) : (viewV p).length ≤ 1000000000000 := by
  have h1 := viewA_len p.envs p.e
  have h2 := E.g.len
  have h3 := E.g.envs
  have h4 := E.g.e
  show (viewA p.envs p.e).length ≤ _
  omega
end
theorem EnvsAt.tail {w : World} {z : En} {rest : List En} {g : Nat} {A : Option Addr} (h : EnvsAt w (some ⟨g, 0, none⟩) (z :: rest)) (hA : 0 < rest.length → A = some ⟨g, 0 + 4, none⟩) : EnvsAt w A rest := fun hn => by
  obtain ⟨b, off, e, hb, hc⟩ := h (by simp)
  injection e with e; injection e with e1 e2 _
  subst e1 e2
  refine ⟨g, 4, by rw [hA hn], hb, fun i x hx => ?_⟩
  have := hc (i + 1) x (by simpa using hx)
  rwa [show 0 + (i + 1) * 4 = 4 + i * 4 by omega] at this
theorem Ent.draw {w0 w : World} {q2 q5 q8 q11 B b0 k c0 : Nat} {K : Array Value} {p p' : St} {x : Sp} {o : Ov} {va vb vc vd : Value} {A9 : Option Addr} {c9 : Nat} {yw : List Value} {An : Option Addr} {cn : Nat} {yn : List Value} {v6 : Value} {V : List (List En)}
    (E : Ent w0 w q2 q5 q8 q11 B b0 k c0 K p p' x o va vb vc vd A9 c9 yw An cn yn v6 V) (nd : Nat) : Ent w0 (w.drewN nd) q2 q5 q8 q11 B b0 k c0 K p p' x o va vb vc vd A9 c9 yw An cn yn v6 V :=
  { E with below := bDrewN E.below nd, k2 := E.k2.next (drawn w nd), vw := E.vw.next (drawn w nd), now := E.now.next (drawn w nd), arg := E.arg, out := E.out, q8w := E.q8w, q11w := E.q11w }
theorem ownsRow_cells' {w : World} {b e size n c : Nat} {A : Option Addr} {xs : List Value} (h : w.ownsRow b e size (.slice A n c) n xs) {ad : Addr} (ha : A = some ad) {j : Nat} {u : Value} (hu : xs[j]? = some u) : w.cell? (ad.add j) = some u := by
  subst ha
  rcases h.2 with ⟨h1, h0⟩ | ⟨g, cap, cur, hv, _⟩
  · cases h1
  · injection hv with e1 _ _
    injection e1 with e1
    subst e1
    exact h.cells rfl j u hu
theorem ownsRow_addr_lt {w : World} {b e size n c : Nat} {A : Option Addr} {xs : List Value} (h : w.ownsRow b e size (.slice A n c) n xs) {ad : Addr} (ha : A = some ad) : ad.block < w.heap.size := by
  subst ha
  rcases h.2 with ⟨h1, h0⟩ | ⟨g, cap, cur, hv, _⟩
  · cases h1
  · injection hv with e1 e2 e3
    injection e1 with e1
    subst e1
    exact (h.lt g rfl).2
theorem eCs_one2 {w : World} {B : Nat} {l : List En} {v : Value} {ys : List Value} (h : RowE w B l v ys) : ∀ u ∈ eCs l ys, u.oneCell' = true := by
  have key : ∀ (l : List En) (ys : List Value), (∀ u ∈ ys, u.oneCell' = true) → ∀ u ∈ eCs l ys, u.oneCell' = true := fun l => by
    induction l with
    | nil => intro ys _ u hu; simp [eCs] at hu
    | cons x l ih =>
      intro ys hy u hu
      cases ys with
      | nil => simp [eCs] at hu
      | cons y ys =>
        simp only [eCs, List.mem_cons] at hu
        rcases hu with rfl | rfl | rfl | rfl | hu
        · rfl
        · rfl
        · rfl
        · exact hy _ List.mem_cons_self
        · exact ih ys (fun u hu => hy u (List.mem_cons_of_mem _ hu)) u hu
  refine key l ys fun u hu => ?_
  obtain ⟨i, hi⟩ := List.mem_iff_getElem?.1 hu
  have hl := (List.getElem?_eq_some_iff.1 hi).1
  obtain ⟨A, c, e, -⟩ := own_form (h.yrow i _ u (List.getElem?_eq_getElem (by rw [← h.ylen]; exact hl)) hi)
  rw [e]; rfl
theorem view_y2 {p : St} (g : Good p) : ∀ z ∈ viewV p, z.y.length ≤ 4096 := viewN_mem (P := fun z => z.y.length ≤ 4096) (l := p.envs) (fun x hx => by
  obtain ⟨i, hi⟩ := List.mem_iff_getElem?.1 hx
  exact (g.en i x hi).2.2.2) _ _
set_option maxHeartbeats 8000000 in
set_option maxRecDepth 100000 in
theorem rnd0 {w0 w : World} {q2 q5 q8 q11 B b0 k c0 : Nat} {K : Array Value} {p p' : St} {what yn yid ypc : Int} {yc : Cl} {ych : Ch} {o : Ov} {va vb vc vd : Value} {A9 : Option Addr} {c9 : Nat} {yw : List Value} {An : Option Addr} {cn : Nat} {yn2 : List Value} {v6 : Value} {V : List (List En)} {s0 s1 s3 s4 s7 : Value} (E : Ent w0 w q2 q5 q8 q11 B b0 k c0 K p p' ⟨what, yn, yid, ypc, yc, ych⟩ o va vb vc vd A9 c9 yw An cn yn2 v6 V) (hw : what = 0) (Q : Exit → Act → World → Prop) (hP : ∀ c (a : Act) d v w, Q (.panic c) (a.put d v) w → Q (.panic c) a w) (tl : List Value) (htl : tl.length = 278)
    (hQ : ∀ v6' s10' s13' tl' w', tl'.length = 278 → Rnd w0 q2 K c0 B q5 p' An v6' s13' k w' → Q .normal ⟨(s0 :: s1 :: .pointer (some ⟨q2, 0, none⟩) :: s3 :: s4 :: .pointer (some ⟨q5, 0, none⟩) :: v6' :: s7 :: .pointer (some ⟨q8, 0, none⟩) :: .slice A9 (viewV p).length c9 :: s10' :: .pointer (some ⟨q11, 0, none⟩) :: .slice An (viewV p').length cn :: s13' :: tl').toArray, []⟩ w') :
    Code.wp Try.prog (cutAt (codeOf Try.f4) [true, true, true, true, false, true, false, false, true, false, false, true, true, true, true, true, true, true, false, true, false, true, false]) Q ⟨(s0 :: s1 :: .pointer (some ⟨q2, 0, none⟩) :: s3 :: s4 :: .pointer (some ⟨q5, 0, none⟩) :: v6 :: s7 :: .pointer (some ⟨q8, 0, none⟩) :: .slice A9 (viewV p).length c9 :: .int .i64 (p.chs.length : Int) :: .pointer (some ⟨q11, 0, none⟩) :: .slice An (viewV p').length cn :: .slice A9 (viewV p).length c9 :: tl).toArray, []⟩ w := by
  obtain ⟨hI, hC⟩ := E.same (by show what ≠ 5; omega) (by show what ≠ 6; omega) (by show what ≠ 7; omega)
  have hd := doV0 (p := p) (x := ⟨what, yn, yid, ypc, yc, ych⟩) hw
  have ho := E.ho
  rw [hd] at ho
  have hp := E.hp
  rw [hd] at hp
  have he : errOf (allocV p yn yid ypc) = 0 := by have := E.he; rw [ho] at this; exact this
  obtain ⟨hn0, hn1, hv'⟩ := view_alloc E.g he
  obtain ⟨n, rfl⟩ : ∃ n : Nat, yn = n := ⟨yn.toNat, by omega⟩
  rw [Int.toNat_natCast] at hv'
  have hv2 : viewV p' = ⟨0, yid, ypc, List.replicate n ⟨1, 0⟩⟩ :: viewV p := by rw [hp]; exact hv'
  have hargs := E.arg
  obtain ⟨hat, hrow⟩ := E.wasAt
  obtain ⟨A8, c8, e8, hc8⟩ := own_form hrow.row
  injection e8 with e81 _ e83
  subst e81 e83
  have hV := E.len
  have hk := E.k60
  refine arm0 (l := viewV p) (yw := yw) (n := n) (id := yid) (pc := ypc) (s12 := .slice An (viewV p').length cn) (s13 := .slice A9 (viewV p).length c9) Q tl htl (by omega) E.view_len hrow.ylen hc8 (fun ad ha j u hu => ownsRow_cells' hrow.row ha hu) hP (fun ad ha => ownsRow_addr_lt hrow.row ha) (eCs_one2 hrow) (hargs 1 _ rfl) (hargs 2 _ rfl) (hargs 3 _ rfl) E.q8w (fun g c gy w' tl' ho2 hy2 hb hl => hQ _ _ _ _ _ hl ?_)
  have hlen : (viewV p').length = 1 + (viewV p).length := by rw [hv2]; simp [Nat.add_comm]
  refine ⟨V, some ⟨g, 0, none⟩, c, by rw [hlen], ?_, E.nowAt.next hb, E.vw.st.next hb, hI, by omega, hC, bNext E.below hb, E.k2.next hb, E.v6b⟩
  rw [hv2]
  intro _
  have hrow' := hrow.next hb
  refine ⟨g, 0, rfl, (ho2.lt g rfl).2, fun i x hx => ?_⟩
  cases i with
  | zero =>
    simp at hx
    subst hx
    refine ⟨some ⟨gy, 0, none⟩, n, own_cell ho2 (j := 0) rfl, own_cell ho2 (j := 1) rfl, own_cell ho2 (j := 2) rfl, ?_, ?_, ?_⟩
    · show _ = some (Value.slice _ (List.replicate n (⟨1, 0⟩ : Cl)).length n)
      rw [List.length_replicate]
      exact own_cell ho2 (j := 3) rfl
    · show CapOk _ (List.replicate n (⟨1, 0⟩ : Cl)).length n
      rw [List.length_replicate]
      exact ⟨Nat.le_refl _, fun e => by cases e⟩
    · have h9 : w'.ownsRow w.heap.size 38 2 (.slice (some ⟨gy, 0, none⟩) (List.replicate n (⟨1, 0⟩ : Cl)).length n) (List.replicate n (⟨1, 0⟩ : Cl)).length (cCs (List.replicate n ⟨1, 0⟩)) := by rw [List.length_replicate]; exact hy2
      exact own_cellsAt h9
  | succ i =>
    have hx : (viewV p)[i]? = some x := by simpa using hx
    have hi := (List.getElem?_eq_some_iff.1 hx).1
    have hyv : yw[i]? = some (yw[i]'(by rw [hrow.ylen]; exact hi)) := List.getElem?_eq_getElem _
    obtain ⟨r0, r1, r2, r3⟩ := eCs_at hx hyv
    have hr := hrow'.yrow i x _ hx hyv
    obtain ⟨Ay, cy, e, hcy⟩ := own_form hr
    rw [e] at hr r3
    have hx4 : ∀ {j : Nat} {u : Value}, (eCs (viewV p) yw)[j]? = some u → w'.cell? ⟨g, 4 + j, none⟩ = some u := fun {j u} hj => own_cell ho2 (j := 4 + j) (by rw [List.getElem?_append_right (by simp)]; simpa [Nat.add_sub_cancel_left] using hj)
    refine ⟨Ay, cy, ?_, ?_, ?_, ?_, hcy, own_cellsAt hr⟩
    · rw [show 0 + (i + 1) * 4 = 4 + i * 4 by omega]; exact hx4 r0
    · rw [show 0 + (i + 1) * 4 + 1 = 4 + (i * 4 + 1) by omega]; exact hx4 r1
    · rw [show 0 + (i + 1) * 4 + 2 = 4 + (i * 4 + 2) by omega]; exact hx4 r2
    · rw [show 0 + (i + 1) * 4 + 3 = 4 + (i * 4 + 3) by omega]; exact hx4 r3
set_option maxHeartbeats 8000000 in
set_option maxRecDepth 100000 in
theorem rnd1 {w0 w : World} {q2 q5 q8 q11 B b0 k c0 : Nat} {K : Array Value} {p p' : St} {what yn yid ypc : Int} {yc : Cl} {ych : Ch} {o : Ov} {va vb vc vd : Value} {A9 : Option Addr} {c9 : Nat} {yw : List Value} {An : Option Addr} {cn : Nat} {yn2 : List Value} {v6 : Value} {V : List (List En)} {s0 s1 s3 s4 s7 : Value} (E : Ent w0 w q2 q5 q8 q11 B b0 k c0 K p p' ⟨what, yn, yid, ypc, yc, ych⟩ o va vb vc vd A9 c9 yw An cn yn2 v6 V) (hw : what = 1) (Q : Exit → Act → World → Prop) (_hP : ∀ c (a : Act) d v w, Q (.panic c) (a.put d v) w → Q (.panic c) a w) (tl : List Value) (htl : tl.length = 278)
    (hQ : ∀ v6' s10' s13' tl' w', tl'.length = 278 → Rnd w0 q2 K c0 B q5 p' An v6' s13' k w' → Q .normal ⟨(s0 :: s1 :: .pointer (some ⟨q2, 0, none⟩) :: s3 :: s4 :: .pointer (some ⟨q5, 0, none⟩) :: v6' :: s7 :: .pointer (some ⟨q8, 0, none⟩) :: .slice A9 (viewV p).length c9 :: s10' :: .pointer (some ⟨q11, 0, none⟩) :: .slice An (viewV p').length cn :: s13' :: tl').toArray, []⟩ w') :
    Code.wp Try.prog (cutAt (codeOf Try.f4) [true, true, true, true, false, true, false, false, true, false, false, true, true, true, true, true, true, true, false, true, false, true, true, true, false]) Q ⟨(s0 :: s1 :: .pointer (some ⟨q2, 0, none⟩) :: s3 :: s4 :: .pointer (some ⟨q5, 0, none⟩) :: v6 :: s7 :: .pointer (some ⟨q8, 0, none⟩) :: .slice A9 (viewV p).length c9 :: .int .i64 (p.chs.length : Int) :: .pointer (some ⟨q11, 0, none⟩) :: .slice An (viewV p').length cn :: .slice A9 (viewV p).length c9 :: tl).toArray, []⟩ w := by
  obtain ⟨hI, hC⟩ := E.same (by show what ≠ 5; omega) (by show what ≠ 6; omega) (by show what ≠ 7; omega)
  have hd := doV1 (p := p) (x := ⟨what, yn, yid, ypc, yc, ych⟩) hw
  have ho := E.ho
  rw [hd] at ho
  have hp := E.hp
  rw [hd] at hp
  have he : errOf (freeV p) = 0 := by have := E.he; rw [ho] at this; exact this
  obtain ⟨z, rest, hv, h1, h2, hv'⟩ := view_free E.g he
  have hv2 : viewV p' = rest := by rw [hp]; exact hv'
  have hargs := E.arg
  have hout := E.out
  obtain ⟨hat, hrow⟩ := E.wasAt
  have hvl := E.view_len
  rw [hv] at hrow hvl hat
  have hlen : (viewV p).length = rest.length + 1 := by rw [hv]; rfl
  obtain ⟨g, c, u, ys', e9, rfl, hyl, hgl, -, hgc, k1, k2, k3, hf3, hy⟩ := RowE.head hrow
  injection e9 with e91 e92 e93
  subst e91 e93
  have hvl : rest.length + 1 ≤ 1000000000000 := hvl
  have hR : ∀ A c2 nd, (0 < rest.length → A = some ⟨g, 0 + 4, none⟩) → Rnd w0 q2 K c0 B q5 p' An v6 (.slice A rest.length c2) k (w.drewN nd) := fun A c2 nd hA => E.still nd (by rw [hv2]) (by rw [hv2]; exact hat.tail hA) E.vw.st hI (by have := E.len; omega) hC E.v6b
  rw [hlen] at hQ ⊢
  refine arm1 (z := z) (rest := rest) Q tl htl (by omega) hgc hgl k1 k2 ?o0 ?o1 E.q11w (fun A c2 tl' nd hA hl => hQ _ _ _ _ _ hl (hR A c2 nd hA))
  case o0 => rw [← h1, ← show o.id = frI (freeV p) by rw [ho]]; exact hout 0 _ rfl
  case o1 => rw [← h2, ← show o.pc = frP (freeV p) by rw [ho]]; exact hout 1 _ rfl
set_option maxHeartbeats 8000000 in
set_option maxRecDepth 100000 in
theorem rnd2 {w0 w : World} {q2 q5 q8 q11 B b0 k c0 : Nat} {K : Array Value} {p p' : St} {what yn yid ypc : Int} {yc : Cl} {ych : Ch} {o : Ov} {va vb vc vd : Value} {A9 : Option Addr} {c9 : Nat} {yw : List Value} {An : Option Addr} {cn : Nat} {yn2 : List Value} {v6 : Value} {V : List (List En)} {s0 s1 s3 s4 s7 : Value} (E : Ent w0 w q2 q5 q8 q11 B b0 k c0 K p p' ⟨what, yn, yid, ypc, yc, ych⟩ o va vb vc vd A9 c9 yw An cn yn2 v6 V) (hw : what = 2) (Q : Exit → Act → World → Prop) (_hP : ∀ c (a : Act) d v w, Q (.panic c) (a.put d v) w → Q (.panic c) a w) (tl : List Value) (htl : tl.length = 278)
    (hQ : ∀ v6' s10' s13' tl' w', tl'.length = 278 → Rnd w0 q2 K c0 B q5 p' An v6' s13' k w' → Q .normal ⟨(s0 :: s1 :: .pointer (some ⟨q2, 0, none⟩) :: s3 :: s4 :: .pointer (some ⟨q5, 0, none⟩) :: v6' :: s7 :: .pointer (some ⟨q8, 0, none⟩) :: .slice A9 (viewV p).length c9 :: s10' :: .pointer (some ⟨q11, 0, none⟩) :: .slice An (viewV p').length cn :: s13' :: tl').toArray, []⟩ w') :
    Code.wp Try.prog (cutAt (codeOf Try.f4) [true, true, true, true, false, true, false, false, true, false, false, true, true, true, true, true, true, true, false, true, false, true, true, true, true, true, false]) Q ⟨(s0 :: s1 :: .pointer (some ⟨q2, 0, none⟩) :: s3 :: s4 :: .pointer (some ⟨q5, 0, none⟩) :: v6 :: s7 :: .pointer (some ⟨q8, 0, none⟩) :: .slice A9 (viewV p).length c9 :: .int .i64 (p.chs.length : Int) :: .pointer (some ⟨q11, 0, none⟩) :: .slice An (viewV p').length cn :: .slice A9 (viewV p).length c9 :: tl).toArray, []⟩ w := by
  obtain ⟨hI, hC⟩ := E.same (by show what ≠ 5; omega) (by show what ≠ 6; omega) (by show what ≠ 7; omega)
  have hd := doV2 (p := p) (x := ⟨what, yn, yid, ypc, yc, ych⟩) hw
  have ho := E.ho
  rw [hd] at ho
  have hp := E.hp
  rw [hd] at hp
  have he : errOf (trimV p yn) = 0 := by have := E.he; rw [ho] at this; exact this
  obtain ⟨z, rest, m, hv, h1, h2, hv'⟩ := view_trim E.g he
  have hv2 : viewV p' = ⟨0, z.id, z.pc, z.y.take m⟩ :: rest := by rw [hp]; exact hv'
  have hargs := E.arg
  have hzl : z.y.length ≤ 4096 := view_y2 E.g ⟨0, z.id, z.pc, z.y⟩ (by rw [hv]; exact List.mem_cons_self)
  have hnow := E.now
  obtain ⟨hat, hrow⟩ := E.wasAt
  have hvl := E.view_len
  rw [hv] at hrow hvl hat
  have hlen : (viewV p).length = rest.length + 1 := by rw [hv]; rfl
  obtain ⟨g, c, u, ys', e9, rfl, hyl, hgl, -, hgc, k1, k2, k3, hf3, hy⟩ := RowE.head hrow
  injection e9 with e91 e92 e93
  subst e91 e93
  have hvl : rest.length + 1 ≤ 1000000000000 := hvl
  have hlen2 : (viewV p').length = rest.length + 1 := by rw [hv2]; rfl
  rw [hv2] at hnow
  obtain ⟨gn, c2, un, yn', e9, rfl, -, hgnl, -, hgnc, -, -, n3, -, hyn⟩ := RowE.head hnow
  injection e9 with e91 e92 e93
  subst e91 e93
  obtain ⟨Ay, cy, rfl, hcy⟩ := own_form hy
  obtain ⟨Am, cm, rfl, -⟩ := own_form hyn
  have hml : (z.y.take m).length = m := by rw [List.length_take]; omega
  have hml2 : ({ prev := 0, id := z.id, pc := z.pc, y := z.y.take m } : En).y.length = m := hml
  rw [hml2] at n3
  have hR : ∀ nd, Rnd w0 q2 K c0 B q5 p' (some ⟨gn, 0, none⟩) v6 (.slice (some ⟨g, 0, none⟩) (rest.length + 1) c9) k ((w.drewN nd).setCell ⟨g, 0 + 3, none⟩ (.slice Ay m cy)) := fun nd => by
    have hrow' := hrow.next (drawn w nd)
    obtain ⟨r1, r2⟩ := hrow'.trim0 h2
    have E' := E.draw nd
    exact E'.turned (g := g) ⟨some ⟨g, 0, none⟩, c9, by rw [hlen2]⟩ (by rw [hv2]; exact r1) r2 (List.mem_filterMap.2 ⟨_, List.mem_cons_self, rfl⟩) (E.blkne hrow.row (by decide) rfl) hI hC
  rw [hlen] at hQ ⊢
  rw [hlen2] at hQ ⊢
  exact arm2 (z := ⟨0, z.id, z.pc, z.y⟩) (rest := rest) (t := yn) (m := m) (_s12 := undef) (_s13 := undef) Q tl htl (by omega) hzl h2 hcy.1 h1 hgl hgnl k3 hf3 n3 (hargs 1 _ rfl) E.q8w (fun tl' nd hl => hQ _ _ _ _ _ hl (hR nd))
set_option maxHeartbeats 8000000 in
set_option maxRecDepth 100000 in
theorem rnd3 {w0 w : World} {q2 q5 q8 q11 B b0 k c0 : Nat} {K : Array Value} {p p' : St} {what yn yid ypc : Int} {yc : Cl} {ych : Ch} {o : Ov} {va vb vc vd : Value} {A9 : Option Addr} {c9 : Nat} {yw : List Value} {An : Option Addr} {cn : Nat} {yn2 : List Value} {v6 : Value} {V : List (List En)} {s0 s1 s3 s4 s7 : Value} (E : Ent w0 w q2 q5 q8 q11 B b0 k c0 K p p' ⟨what, yn, yid, ypc, yc, ych⟩ o va vb vc vd A9 c9 yw An cn yn2 v6 V) (hw : what = 3) (Q : Exit → Act → World → Prop) (_hP : ∀ c (a : Act) d v w, Q (.panic c) (a.put d v) w → Q (.panic c) a w) (tl : List Value) (htl : tl.length = 278)
    (hQ : ∀ v6' s10' s13' tl' w', tl'.length = 278 → Rnd w0 q2 K c0 B q5 p' An v6' s13' k w' → Q .normal ⟨(s0 :: s1 :: .pointer (some ⟨q2, 0, none⟩) :: s3 :: s4 :: .pointer (some ⟨q5, 0, none⟩) :: v6' :: s7 :: .pointer (some ⟨q8, 0, none⟩) :: .slice A9 (viewV p).length c9 :: s10' :: .pointer (some ⟨q11, 0, none⟩) :: .slice An (viewV p').length cn :: s13' :: tl').toArray, []⟩ w') :
    Code.wp Try.prog (cutAt (codeOf Try.f4) [true, true, true, true, false, true, false, false, true, false, false, true, true, true, true, true, true, true, false, true, false, true, true, true, true, true, true, true, false]) Q ⟨(s0 :: s1 :: .pointer (some ⟨q2, 0, none⟩) :: s3 :: s4 :: .pointer (some ⟨q5, 0, none⟩) :: v6 :: s7 :: .pointer (some ⟨q8, 0, none⟩) :: .slice A9 (viewV p).length c9 :: .int .i64 (p.chs.length : Int) :: .pointer (some ⟨q11, 0, none⟩) :: .slice An (viewV p').length cn :: .slice A9 (viewV p).length c9 :: tl).toArray, []⟩ w := by
  obtain ⟨hI, hC⟩ := E.same (by show what ≠ 5; omega) (by show what ≠ 6; omega) (by show what ≠ 7; omega)
  have hd := doV3 (p := p) (x := ⟨what, yn, yid, ypc, yc, ych⟩) hw
  have ho := E.ho
  rw [hd] at ho
  have hp := E.hp
  rw [hd] at hp
  have he : errOf (getV p yn) = 0 := by have := E.he; rw [ho] at this; exact this
  obtain ⟨z, rest, hv, h1, h2, hc⟩ := view_get E.g he
  obtain ⟨hat, hrow⟩ := E.wasAt
  have hvl := E.view_len
  have e13 := E.still (V' := V) (v' := v6) (s13 := .slice A9 (viewV p).length c9) (A := A9) (c := c9) (nd := 0)
  have hpp : p' = p := hp
  have hst := E.vw.st
  have hzl : z.y.length ≤ 4096 := view_y2 E.g ⟨0, z.id, z.pc, z.y⟩ (by rw [hv]; exact List.mem_cons_self)
  subst hpp
  have hR : ∀ nd, Rnd w0 q2 K c0 B q5 p' An v6 (.slice A9 (viewV p').length c9) k (w.drewN nd) := fun nd => E.still nd rfl hat hst hI (by have := E.len; omega) hC E.v6b
  have hargs := E.arg
  have hout := E.out
  rw [hv] at hrow hvl
  obtain ⟨g, c, u, ys', e9, rfl, hyl, hgl, -, hgc, -, -, k3, -, hy⟩ := RowE.head hrow
  injection e9 with e91 e92 e93
  subst e91 e93
  obtain ⟨m, rfl⟩ : ∃ m : Nat, yn = (m : Int) + 1 := ⟨(yn - 1).toNat, by omega⟩
  rw [show ((m : Int) + 1 - 1).toNat = m by omega] at hc
  obtain ⟨gy, cy, rfl⟩ := own_head hy (by show 0 < z.y.length; omega)
  obtain ⟨y0, y1⟩ := cCs_at hc
  have hml : m < z.y.length := (List.getElem?_eq_some_iff.1 hc).1
  have q0 := own_cell hy y0
  have q1 := own_cell hy y1
  rw [show m * 2 = 0 + m * 2 by omega] at q0 q1
  have hlen : (viewV p').length = rest.length + 1 := by rw [hv]; rfl
  rw [hlen] at hR hQ ⊢
  have oc : o.c = geC (getV p' ((m : Int) + 1)) := by rw [ho]
  refine arm3 (z := ⟨0, z.id, z.pc, z.y⟩) (c := geC (getV p' ((m : Int) + 1))) Q tl htl (by have : rest.length + 1 ≤ 1000000000000 := hvl; omega) hzl hml hgl k3 (hy.lt gy rfl).2 q0 q1 ?x1 ?o2 ?o3 E.q8w E.q11w (fun tl' nd hl => hQ _ _ _ _ _ hl (hR nd))
  case x1 => exact hargs 1 _ rfl
  case o2 => rw [← oc]; exact hout 2 _ rfl
  case o3 => rw [← oc]; exact hout 3 _ rfl
set_option maxHeartbeats 8000000 in
set_option maxRecDepth 100000 in
theorem rnd4 {w0 w : World} {q2 q5 q8 q11 B b0 k c0 : Nat} {K : Array Value} {p p' : St} {what yn yid ypc : Int} {yc : Cl} {ych : Ch} {o : Ov} {va vb vc vd : Value} {A9 : Option Addr} {c9 : Nat} {yw : List Value} {An : Option Addr} {cn : Nat} {yn2 : List Value} {v6 : Value} {V : List (List En)} {s0 s1 s3 s4 s7 : Value} (E : Ent w0 w q2 q5 q8 q11 B b0 k c0 K p p' ⟨what, yn, yid, ypc, yc, ych⟩ o va vb vc vd A9 c9 yw An cn yn2 v6 V) (hw : what = 4) (Q : Exit → Act → World → Prop) (_hP : ∀ c (a : Act) d v w, Q (.panic c) (a.put d v) w → Q (.panic c) a w) (tl : List Value) (htl : tl.length = 278)
    (hQ : ∀ v6' s10' s13' tl' w', tl'.length = 278 → Rnd w0 q2 K c0 B q5 p' An v6' s13' k w' → Q .normal ⟨(s0 :: s1 :: .pointer (some ⟨q2, 0, none⟩) :: s3 :: s4 :: .pointer (some ⟨q5, 0, none⟩) :: v6' :: s7 :: .pointer (some ⟨q8, 0, none⟩) :: .slice A9 (viewV p).length c9 :: s10' :: .pointer (some ⟨q11, 0, none⟩) :: .slice An (viewV p').length cn :: s13' :: tl').toArray, []⟩ w') :
    Code.wp Try.prog (cutAt (codeOf Try.f4) [true, true, true, true, false, true, false, false, true, false, false, true, true, true, true, true, true, true, false, true, false, true, true, true, true, true, true, true, true, true, false]) Q ⟨(s0 :: s1 :: .pointer (some ⟨q2, 0, none⟩) :: s3 :: s4 :: .pointer (some ⟨q5, 0, none⟩) :: v6 :: s7 :: .pointer (some ⟨q8, 0, none⟩) :: .slice A9 (viewV p).length c9 :: .int .i64 (p.chs.length : Int) :: .pointer (some ⟨q11, 0, none⟩) :: .slice An (viewV p').length cn :: .slice A9 (viewV p).length c9 :: tl).toArray, []⟩ w := by
  obtain ⟨hI, hC⟩ := E.same (by show what ≠ 5; omega) (by show what ≠ 6; omega) (by show what ≠ 7; omega)
  have hd := doV4 (p := p) (x := ⟨what, yn, yid, ypc, yc, ych⟩) hw
  have ho := E.ho
  rw [hd] at ho
  have hp := E.hp
  rw [hd] at hp
  have he : errOf (setV p yn yc) = 0 := by have := E.he; rw [ho] at this; exact this
  obtain ⟨z, rest, hv, h1, h2, hv'⟩ := view_sety E.g he
  obtain ⟨m, rfl⟩ : ∃ m : Nat, yn = (m : Int) + 1 := ⟨(yn - 1).toNat, by omega⟩
  rw [show ((m : Int) + 1 - 1).toNat = m by omega] at hv'
  have hv2 : viewV p' = ⟨0, z.id, z.pc, z.y.set m yc⟩ :: rest := by rw [hp]; exact hv'
  have hargs := E.arg
  have hzl : z.y.length ≤ 4096 := view_y2 E.g ⟨0, z.id, z.pc, z.y⟩ (by rw [hv]; exact List.mem_cons_self)
  obtain ⟨hat, hrow⟩ := E.wasAt
  have hvl := E.view_len
  rw [hv] at hrow hvl hat
  have hlen : (viewV p).length = rest.length + 1 := by rw [hv]; rfl
  obtain ⟨g, c, u, ys', e9, rfl, hyl, hgl, -, hgc, k1, k2, k3, hf3, hy⟩ := RowE.head hrow
  injection e9 with e91 e92 e93
  subst e91 e93
  have hvl : rest.length + 1 ≤ 1000000000000 := hvl
  have hlen2 : (viewV p').length = rest.length + 1 := by rw [hv2]; rfl
  obtain ⟨gy, cy, rfl⟩ := own_head hy (by show 0 < z.y.length; omega)
  have hml : m < z.y.length := by omega
  obtain ⟨d, hd2⟩ : ∃ d, z.y[m]? = some d := ⟨_, List.getElem?_eq_getElem hml⟩
  obtain ⟨y0, y1⟩ := cCs_at hd2
  have q0 := own_cell hy y0
  have q1 := own_cell hy y1
  have f0 := hy.frozenAt (m * 2)
  have f1 := hy.frozenAt (m * 2 + 1)
  rw [show m * 2 = 0 + m * 2 by omega] at q0 q1 f0 f1
  have hR : ∀ nd, Rnd w0 q2 K c0 B q5 p' An v6 (.slice (some ⟨g, 0, none⟩) (rest.length + 1) c9) k (((w.drewN nd).setCell ⟨gy, 0 + m * 2, none⟩ (.int .i64 yc.tag)).setCell ⟨gy, 0 + m * 2 + 1, none⟩ (.int .i64 yc.n)) := fun nd => by
    have hrow' := hrow.next (drawn w nd)
    obtain ⟨r1, r2⟩ := hrow'.set0 (m := m) hml yc
    have E' := E.draw nd
    exact E'.turned (g := gy) ⟨some ⟨g, 0, none⟩, c9, by rw [hlen2]⟩ (by rw [hv2]; exact r1) r2 (List.mem_filterMap.2 ⟨_, List.mem_cons_of_mem _ List.mem_cons_self, rfl⟩) (E.blkne hy (by decide) rfl) hI hC
  rw [hlen] at hQ ⊢
  exact arm4 (z := ⟨0, z.id, z.pc, z.y⟩) (rest := rest) (m := m) (c := yc) (d := d) (_s13 := undef) Q tl htl (by omega) hzl hml hgl k3 (hy.lt gy rfl).2 q0 q1 f0 f1 (hargs 1 _ rfl) (hargs 4 _ rfl) (hargs 5 _ rfl) E.q8w (fun tl' nd hl => hQ _ _ _ _ _ hl (hR nd))
set_option maxHeartbeats 8000000 in
set_option maxRecDepth 100000 in
theorem rnd5 {w0 w : World} {q2 q5 q8 q11 B b0 k c0 : Nat} {K : Array Value} {p p' : St} {what yn yid ypc : Int} {yc : Cl} {ych : Ch} {o : Ov} {va vb vc vd : Value} {A9 : Option Addr} {c9 : Nat} {yw : List Value} {An : Option Addr} {cn : Nat} {yn2 : List Value} {v6 : Value} {V : List (List En)} {s0 s1 s3 s4 s7 : Value} (E : Ent w0 w q2 q5 q8 q11 B b0 k c0 K p p' ⟨what, yn, yid, ypc, yc, ych⟩ o va vb vc vd A9 c9 yw An cn yn2 v6 V) (hw : what = 5) (Q : Exit → Act → World → Prop) (_hP : ∀ c (a : Act) d v w, Q (.panic c) (a.put d v) w → Q (.panic c) a w) (tl : List Value) (htl : tl.length = 278)
    (hQ : ∀ v6' s10' s13' tl' w', tl'.length = 278 → Rnd w0 q2 K c0 B q5 p' An v6' s13' k w' → Q .normal ⟨(s0 :: s1 :: .pointer (some ⟨q2, 0, none⟩) :: s3 :: s4 :: .pointer (some ⟨q5, 0, none⟩) :: v6' :: s7 :: .pointer (some ⟨q8, 0, none⟩) :: .slice A9 (viewV p).length c9 :: s10' :: .pointer (some ⟨q11, 0, none⟩) :: .slice An (viewV p').length cn :: s13' :: tl').toArray, []⟩ w') :
    Code.wp Try.prog (cutAt (codeOf Try.f4) [true, true, true, true, false, true, false, false, true, false, false, true, true, true, true, true, true, true, false, true, false, true, true, true, true, true, true, true, true, true, true, true, false]) Q ⟨(s0 :: s1 :: .pointer (some ⟨q2, 0, none⟩) :: s3 :: s4 :: .pointer (some ⟨q5, 0, none⟩) :: v6 :: s7 :: .pointer (some ⟨q8, 0, none⟩) :: .slice A9 (viewV p).length c9 :: .int .i64 (p.chs.length : Int) :: .pointer (some ⟨q11, 0, none⟩) :: .slice An (viewV p').length cn :: .slice A9 (viewV p).length c9 :: tl).toArray, []⟩ w := by
  have hd := doV5 (p := p) (x := ⟨what, yn, yid, ypc, yc, ych⟩) hw
  have ho := E.ho
  rw [hd] at ho
  have hp := E.hp
  rw [hd] at hp
  have he : errOf (pushV p ych) = 0 := by have := E.he; rw [ho] at this; exact this
  obtain ⟨hI, hCl⟩ := E.inv.push E.g ⟨what, yn, yid, ypc, yc, ych⟩ hw (by rw [← E.ho]; exact E.he)
  rw [← E.hp] at hI hCl
  have hv2 : viewV p' = viewV p := by rw [hp]; exact view_push
  have hvw := E.vw
  obtain ⟨ve, vcc, yss, css, h1, h2, h3, h4⟩ := hvw
  obtain ⟨vs, hown, hvl, hpf, hrows⟩ := h2
  have hV := E.len
  have hk := E.k60
  have hch := E.chs
  refine arm5 (_s6 := undef) (q8 := q8) (q11 := q11) (s12 := .slice An (viewV p').length cn) (s13 := .slice A9 (viewV p).length c9) Q tl htl hown (by omega) (fun gn cap w' tl' ho2 hg2 hat hl => hQ _ _ _ _ _ hl ?_)
  have hba : Below w.heap.size w (w.alloc (.cells #[.slice A9 (viewV p).length c9] 22)) := bAlloc w _
  have hlow : ∀ g, v6.ownBlock = some g → w0.heap.size ≤ g := E.v6b
  have hsz : (w.alloc (.cells #[.slice A9 (viewV p).length c9] 22)).heap.size = w.heap.size + 1 := by simp
  have keep : ∀ g, g < w.heap.size → v6.ownBlock ≠ some g → w'.heap[g]? = w.heap[g]? := fun g hgl hgn => (hg2.block g (by rw [hsz]; omega) (fun e => hgn e.symm)).trans (hba.block g hgl)
  have hsize : w.heap.size ≤ w'.heap.size := Nat.le_trans hba.size hg2.size
  have hty : ∀ g, v6.ownBlock = some g → ∃ cs, w.heap[g]? = some (.cells cs 22 (0, 0)) := fun g e => own_ty hown e
  have hne : ∀ {e size n b : Nat} {v : Value} {xs : List Value} {g : Nat}, w.ownsRow b e size v n xs → e ≠ 22 → v.ownBlock = some g → v6.ownBlock ≠ some g := fun hr hne hg e => by
    obtain ⟨cs, hc⟩ := own_ty hr hg
    obtain ⟨cs', hc'⟩ := hty _ e
    rw [hc] at hc'; injection hc' with hc'; injection hc' with _ hc'; exact hne hc'
  have hfoot : ∀ g ∈ foot q5 ve vcc yss css, v6.ownBlock ≠ some g := fun g hm e => hpf g e (List.mem_append_left _ hm)
  have hwas : ∀ g ∈ blks (.slice A9 (viewV p).length c9 :: yw), v6.ownBlock ≠ some g := fun g hm e => hpf g e (List.mem_append_right _ hm)
  have hwas' : RowE w' 0 (viewV p) (.slice A9 (viewV p).length c9) yw := h3.stayF fun g hm => keep g (h3.lt g hm).2 (hwas g hm)
  have hnow' : RowE w' 0 (viewV p') (.slice An (viewV p').length cn) yn2 := E.now.stayF (fun g hm => keep g (E.now.lt g hm).2 (fun e => by
    obtain ⟨u, hu, e2⟩ := List.mem_filterMap.1 hm
    rcases List.mem_cons.1 hu with rfl | hu
    · exact hne E.now.row (by decide) e2 e
    · obtain ⟨i, hi⟩ := List.mem_iff_getElem?.1 hu
      have hl2 := (List.getElem?_eq_some_iff.1 hi).1
      exact hne (E.now.yrow i _ u (List.getElem?_eq_getElem (by rw [← E.now.ylen]; exact hl2)) hi) (by decide) e2 e)) |>.base (Nat.zero_le _)
  obtain ⟨A, c, eA, hA⟩ := hwas'.at
  injection eA with eA _ _
  subst eA
  obtain ⟨A2, c2, eA2, hA2⟩ := hnow'.at
  injection eA2 with eA2 _ _
  subst eA2
  refine ⟨V ++ [viewV p], _, c9, by rw [hv2], by rw [hv2]; exact hA, hA2, ⟨ve, vcc, yss, css, h1.stayF (fun g hm => keep g (h1.foot_lt g hm) (hfoot g hm)), vs ++ [.slice A9 (viewV p).length c9], ?_, by simp [hvl], ?_, ?_⟩, hI, by simp; omega, by rw [hCl]; simp; omega, ?_, ?_, ?_⟩
  · rw [List.length_append]; exact ho2
  · intro g hg hm
    have hg : gn = g := by injection hg
    subst hg
    rcases hat with e | e
    · exact hfoot _ hm e
    · have := h1.foot_lt _ hm; omega
  · intro i l u hl2 hu
    rcases Nat.lt_or_ge i V.length with hi | hi
    · rw [List.getElem?_append_left hi] at hl2
      rw [List.getElem?_append_left (by rw [hvl]; exact hi)] at hu
      obtain ⟨yy, h5, h6⟩ := hrows i l u hl2 hu
      refine ⟨yy, h5.stayF fun g hm => keep g (h5.lt g hm).2 (fun e => ?_), fun g hm hf => h6 g hm (List.mem_append_left _ hf)⟩
      obtain ⟨u2, hu2, e2⟩ := List.mem_filterMap.1 hm
      rcases List.mem_cons.1 hu2 with rfl | hu2
      · exact hne h5.row (by decide) e2 e
      · obtain ⟨i2, hi2⟩ := List.mem_iff_getElem?.1 hu2
        have hl3 := (List.getElem?_eq_some_iff.1 hi2).1
        exact hne (h5.yrow i2 _ u2 (List.getElem?_eq_getElem (by rw [← h5.ylen]; exact hl3)) hi2) (by decide) e2 e
    · rw [List.getElem?_append_right hi] at hl2
      rw [List.getElem?_append_right (by rw [hvl]; exact hi)] at hu
      have h0 : i - V.length = 0 := by
        have := (List.getElem?_eq_some_iff.1 hl2).1
        simp at this
        omega
      rw [h0] at hl2
      rw [hvl, h0] at hu
      simp at hl2 hu
      subst hl2 hu
      exact ⟨yw, hwas', fun g hm hf => h4 g hm hf⟩
  · exact (bNext E.below hba).grown hg2 (Nat.le_trans E.below.size hba.size) hlow
  · exact (keep q2 E.k2.lt (fun e => by
      obtain ⟨cs, hc⟩ := hty _ e
      have h2 : w.heap[q2]? = some (Obj.cells K 25 (0, 0)) := E.k2
      rw [hc] at h2; injection h2 with h2; injection h2 with _ h2; exact absurd h2 (by decide))).trans E.k2
  · intro g hg
    have hg : gn = g := by injection hg
    subst hg
    rcases hat with e | e
    · exact hlow _ e
    · have := E.below.size; omega
set_option maxHeartbeats 8000000 in
set_option maxRecDepth 100000 in
theorem rnd6 {w0 w : World} {q2 q5 q8 q11 B b0 k c0 : Nat} {K : Array Value} {p p' : St} {what yn yid ypc : Int} {yc : Cl} {ych : Ch} {o : Ov} {va vb vc vd : Value} {A9 : Option Addr} {c9 : Nat} {yw : List Value} {An : Option Addr} {cn : Nat} {yn2 : List Value} {v6 : Value} {V : List (List En)} {s0 s1 s3 s4 s7 : Value} (E : Ent w0 w q2 q5 q8 q11 B b0 k c0 K p p' ⟨what, yn, yid, ypc, yc, ych⟩ o va vb vc vd A9 c9 yw An cn yn2 v6 V) (hw : what = 6) (Q : Exit → Act → World → Prop) (_hP : ∀ c (a : Act) d v w, Q (.panic c) (a.put d v) w → Q (.panic c) a w) (tl : List Value) (htl : tl.length = 278)
    (hQ : ∀ v6' s10' s13' tl' w', tl'.length = 278 → Rnd w0 q2 K c0 B q5 p' An v6' s13' k w' → Q .normal ⟨(s0 :: s1 :: .pointer (some ⟨q2, 0, none⟩) :: s3 :: s4 :: .pointer (some ⟨q5, 0, none⟩) :: v6' :: s7 :: .pointer (some ⟨q8, 0, none⟩) :: .slice A9 (viewV p).length c9 :: s10' :: .pointer (some ⟨q11, 0, none⟩) :: .slice An (viewV p').length cn :: s13' :: tl').toArray, []⟩ w') :
    Code.wp Try.prog (cutAt (codeOf Try.f4) [true, true, true, true, false, true, false, false, true, false, false, true, true, true, true, true, true, true, false, true, false, true, true, true, true, true, true, true, true, true, true, true, true, true, false]) Q ⟨(s0 :: s1 :: .pointer (some ⟨q2, 0, none⟩) :: s3 :: s4 :: .pointer (some ⟨q5, 0, none⟩) :: v6 :: s7 :: .pointer (some ⟨q8, 0, none⟩) :: .slice A9 (viewV p).length c9 :: .int .i64 (p.chs.length : Int) :: .pointer (some ⟨q11, 0, none⟩) :: .slice An (viewV p').length cn :: .slice A9 (viewV p).length c9 :: tl).toArray, []⟩ w := by
  have hd := doV6 (p := p) (x := ⟨what, yn, yid, ypc, yc, ych⟩) hw
  have ho := E.ho
  rw [hd] at ho
  have hp := E.hp
  rw [hd] at hp
  have he : errOf (popR p) = 0 := by have := E.he; rw [ho] at this; exact this
  obtain ⟨cc, hcc, hpos, hv', hch⟩ := view_pop E.g he
  have hv2 : viewV p' = viewA p.envs cc.env := by rw [hp]; exact hv'
  have hchl : p'.chs.length = p.chs.length - 1 := by rw [hp]; show (popS p (popR p)).chs.length = _; rw [hch, List.length_take]; omega
  have hI := E.inv.cut E.g ⟨what, yn, yid, ypc, yc, ych⟩ (m := p.chs.length - 1) (by omega) (by rw [hd]; exact hch) (fun _ => by omega) (fun h => absurd (hw.symm.trans h) (by decide))
  rw [← E.hp, show p.chs.length - (p.chs.length - 1) = 1 by omega] at hI
  have hV := E.len
  have hk := E.k60
  have hchs := E.chs
  have hst := E.vw.st
  obtain ⟨ve, vcc, yss, css, h1, h2⟩ := hst
  obtain ⟨A6, c6, e6⟩ := h2.form
  subst e6
  by_cases hV0 : V.length = 0
  · have hVn : V = [] := List.eq_nil_of_length_eq_zero hV0
    subst hVn
    refine arm6a (_s6 := undef) (q8 := q8) (q11 := q11) (s12 := .slice An (viewV p').length cn) (s13 := .slice A9 (viewV p).length c9) Q tl htl (fun tl' hl => hQ _ _ _ _ _ hl ?_)
    exact (by have := E.still (V' := []) (s13 := .slice An (viewV p').length cn) (c := cn) 0 (A := An) rfl E.nowAt ⟨ve, vcc, yss, css, h1, h2⟩ hI (Nat.zero_le _) (by rw [hchl]; simp at hchs ⊢; omega) E.v6b; rwa [show w.drewN 0 = w from rfl] at this)
  · obtain ⟨n, hn⟩ : ∃ n, V.length = n + 1 := ⟨V.length - 1, by omega⟩
    obtain ⟨l, hl⟩ : ∃ l, V[n]? = some l := ⟨_, List.getElem?_eq_getElem (by omega)⟩
    obtain ⟨g, D, d, rfl, hcell, hEl⟩ := h2.last hn hl
    obtain ⟨cx, hcx, hlv⟩ := E.inv.2 n l hl
    rw [show p.chs.length - V.length + n = p.chs.length - 1 by have := E.inv.1; omega, hcc] at hcx
    injection hcx with hcx
    subst hcx
    have hlv2 : l = viewV p' := by rw [hv2]; exact hlv
    have hcut := h2.cut (m := n) (by omega)
    have hgl := h2.lt g rfl
    obtain ⟨vs, hown, -⟩ := h2
    obtain ⟨A7, c7, e7, hc7⟩ := own_form hown
    injection e7 with e71 _ e73
    subst e71 e73
    rw [hn] at hc7 ⊢
    rw [hn] at hI
    refine arm6b (_s6 := undef) (q8 := q8) (q11 := q11) (s12 := .slice An (viewV p').length cn) (s13 := .slice A9 (viewV p).length c9) Q tl htl (by omega) hc7.1 hcell hgl (fun tl' hl2 => hQ _ _ _ _ _ hl2 ?_)
    have hRR := E.still (V' := V.take n) (v' := .slice (some ⟨g, 0, none⟩) n c6) (s13 := .slice D l.length d) (c := d) 0 (A := D) (by rw [hlv2]) (by rw [← hlv2]; exact hEl) ⟨ve, vcc, yss, css, h1, hcut⟩ (by simpa using hI) (by rw [List.length_take]; omega) (by rw [hchl, List.length_take]; omega) (fun g' hg' => E.v6b g' hg')
    rwa [show w.drewN 0 = w from rfl] at hRR
set_option maxHeartbeats 8000000 in
set_option maxRecDepth 100000 in
theorem rnd7 {w0 w : World} {q2 q5 q8 q11 B b0 k c0 : Nat} {K : Array Value} {p p' : St} {what yn yid ypc : Int} {yc : Cl} {ych : Ch} {o : Ov} {va vb vc vd : Value} {A9 : Option Addr} {c9 : Nat} {yw : List Value} {An : Option Addr} {cn : Nat} {yn2 : List Value} {v6 : Value} {V : List (List En)} {s0 s1 s3 s4 s7 : Value} (E : Ent w0 w q2 q5 q8 q11 B b0 k c0 K p p' ⟨what, yn, yid, ypc, yc, ych⟩ o va vb vc vd A9 c9 yw An cn yn2 v6 V) (hw : what = 7) (Q : Exit → Act → World → Prop) (_hP : ∀ c (a : Act) d v w, Q (.panic c) (a.put d v) w → Q (.panic c) a w) (tl : List Value) (htl : tl.length = 278)
    (hQ : ∀ v6' s10' s13' tl' w', tl'.length = 278 → Rnd w0 q2 K c0 B q5 p' An v6' s13' k w' → Q .normal ⟨(s0 :: s1 :: .pointer (some ⟨q2, 0, none⟩) :: s3 :: s4 :: .pointer (some ⟨q5, 0, none⟩) :: v6' :: s7 :: .pointer (some ⟨q8, 0, none⟩) :: .slice A9 (viewV p).length c9 :: s10' :: .pointer (some ⟨q11, 0, none⟩) :: .slice An (viewV p').length cn :: s13' :: tl').toArray, []⟩ w') :
    Code.wp Try.prog (cutAt (codeOf Try.f4) [true, true, true, true, false, true, false, false, true, false, false, true, true, true, true, true, true, true, false, true, false, true, true, true, true, true, true, true, true, true, true, true, true, true, true, true, false]) Q ⟨(s0 :: s1 :: .pointer (some ⟨q2, 0, none⟩) :: s3 :: s4 :: .pointer (some ⟨q5, 0, none⟩) :: v6 :: s7 :: .pointer (some ⟨q8, 0, none⟩) :: .slice A9 (viewV p).length c9 :: .int .i64 (p.chs.length : Int) :: .pointer (some ⟨q11, 0, none⟩) :: .slice An (viewV p').length cn :: .slice A9 (viewV p).length c9 :: tl).toArray, []⟩ w := by
  have hd := doV7 (p := p) (x := ⟨what, yn, yid, ypc, yc, ych⟩) hw
  have ho := E.ho
  rw [hd] at ho
  have hp := E.hp
  rw [hd] at hp
  have he : errOf (cutV p yn) = 0 := by have := E.he; rw [ho] at this; exact this
  obtain ⟨hn0, hn1, hv', hch⟩ := view_cut E.g he
  obtain ⟨m, rfl⟩ : ∃ m : Nat, yn = m := ⟨yn.toNat, by omega⟩
  rw [Int.toNat_natCast] at hch
  have hv2 : viewV p' = viewV p := by rw [hp]; exact hv'
  have hchl : p'.chs.length = m := by rw [hp]; show (stOf p (cutV p m)).chs.length = _; rw [hch, List.length_take]; omega
  have hI := E.inv.cut E.g ⟨what, (m : Int), yid, ypc, yc, ych⟩ (m := m) (by omega) (by rw [hd]; exact hch) (fun h => absurd (hw.symm.trans h) (by decide)) (fun _ => Int.le_refl _)
  rw [← E.hp] at hI
  have hV := E.len
  have hk := E.k60
  have hchs := E.chs
  have hst := E.vw.st
  obtain ⟨ve, vcc, yss, css, h1, h2⟩ := hst
  obtain ⟨A6, c6, e6⟩ := h2.form
  subst e6
  have hcut := h2.cut (m := V.length - (p.chs.length - m)) (by omega)
  obtain ⟨vs, hown, -⟩ := h2
  obtain ⟨A7, c7, e7, hc7⟩ := own_form hown
  injection e7 with e71 _ e73
  subst e71 e73
  have hbox := h1.box
  obtain ⟨Ac, cc, ecc, -⟩ := own_form h1.chs
  subst ecc
  obtain ⟨A2, n2, hk3⟩ := E.k3
  have hs := E.k2.cell 2
  rw [hk3] at hs
  have hb2 := hbox.cell 2
  rw [← hchl] at hcut hI
  have hpl : (p.chs.length : Int) ≤ 1048576 := by have := E.g.chs; omega
  refine arm7 (_s2 := undef) (_s5 := undef) (_s6 := undef) (_s10 := undef) (q8 := q8) (q11 := q11) (pn := p'.chs.length) (c0 := c0) (s12 := .slice An (viewV p').length cn) (s13 := .slice A9 (viewV p).length c9) Q tl htl (by omega) hc7.1 (by omega) (by omega) E.inv.1 hchs E.c0le (by simpa using hb2) hs E.k2.lt hbox.lt (fun nn tl' hl => hQ _ _ _ _ _ hl ?_)
  have hRR := E.still (V' := V.take (V.length - (p.chs.length - p'.chs.length))) (v' := .slice A6 (V.length - (p.chs.length - p'.chs.length)) c6) (s13 := .slice A9 (viewV p).length c9) (c := c9) 0 (A := A9) (by rw [hv2]) (by rw [hv2]; exact E.wasAt.1) ⟨ve, _, yss, css, h1, hcut⟩ hI (by rw [List.length_take]; omega) (by rw [List.length_take]; omega) (fun g' hg' => E.v6b g' (by cases A6 <;> exact hg'))
  rwa [show w.drewN 0 = w from rfl] at hRR
end Go.Proofs.Ytpkpffnabcgcbaa
