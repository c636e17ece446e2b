/-
  Walk: a further line of a block is read. Plain: a text in lines; what Parse answers.
-/
import Derived.Test.YtbipeakinmbdiaaGreatDoorKp
import Derived.Test.YtbipeakinmbdiaaGreatDoorKa
namespace Go.Proofs.YtbipeakinmbdiaaGreatDoor
section
open Go.RowKit

theorem ib_take (c : UInt8) : ∀ l : List UInt8, (Lib.indexByte l c = -1 ∧ l.takeWhile (· != c) = l) ∨ ∃ i : Nat, Lib.indexByte l c = i ∧ l.takeWhile (· != c) = l.take i
  | [] => .inl ⟨rfl, rfl⟩
  | b :: l => by
    by_cases h : b = c
    · refine .inr ⟨0, ?_, ?_⟩
      · unfold Lib.indexByte; rw [if_pos (by simpa using h)]; rfl
      · simp [h]
    · have hb : (b != c) = true := by simpa using h
      have hc : (b == c) = false := by simpa using h
      rcases ib_take c l with ⟨h1, h2⟩ | ⟨i, h1, h2⟩
      · refine .inl ⟨?_, ?_⟩
        · unfold Lib.indexByte; rw [hc, h1]; rfl
        · rw [List.takeWhile_cons, if_pos hb, h2]
      · refine .inr ⟨i + 1, ?_, ?_⟩
        · unfold Lib.indexByte
          rw [hc, h1, if_neg (by simp), if_neg (by simp)]
          first | rfl | omega
        · rw [List.takeWhile_cons, if_pos hb, h2]; rfl
theorem cut_take (l : List UInt8) : (Lib.cut l [32]).1 = l.takeWhile (· != 32) := by
  unfold Lib.cut
  rw [Lib.index_one]
  rcases ib_take 32 l with ⟨h1, h2⟩ | ⟨i, h1, h2⟩
  · rw [h1, h2, if_neg (by decide)]
  · rw [h1, h2, if_pos (by omega)]; simp
/-- a block in memory whose code is a row of its own -/
def BkAt (w : World) (base B : Nat) (b : Bk) (v : Value) : Prop :=
  ∃ A n c, n = b.code.length ∧ v = .slice A n c ∧ Blk w B 28 (bkC b A n c) ∧ w.ownsRow base 34 6 v n (aCs b.code)
theorem KeptS.grown {P : Nat → Prop} {w w1 w2 : World} {row : Option Nat} (h : KeptS P w w1) (hg : w1.grownBy w2 row) (hr : ∀ g, row = some g → P g ∨ w.heap.size ≤ g) : KeptS P w w2 :=
  ⟨hg.os.trans h.os, hg.tape.trans h.tape, hg.output.trans h.output, Nat.le_trans h.size hg.size, fun i hi hn => (hg.block i (Nat.lt_of_lt_of_le hi h.size) (fun e => (hr i e.symm).elim hn (fun h1 => by omega))).trans (h.block i hi hn)⟩
/-- what the reading of a line leaves -/
def LnR (base B : Nat) (b : Bk) (s : List UInt8) (v : Value) (z0 : Nat) (o : Option (Bool × List UInt8)) (w : World) : Prop := (∃ cs, cs.size = 9 ∧ Blk w B 28 cs) ∧ match o with
  | some (z, r) => ∃ x, lineP s = (if z && r.isEmpty then some x else none) ∧ ((z && r.isEmpty) = true → ∃ v', BkAt w base B { b with code := b.code ++ [x] } v' ∧ (v'.ownBlock = v.ownBlock ∨ ∃ g, v'.ownBlock = some g ∧ z0 ≤ g))
  | none => lineP s = none
theorem info34 : (Tryz.prog.info? 34).map (fun i => (i.zero, i.size, i.bytes)) = some (some (.agg #[.int .i64 0, .int .i64 0, .int .i64 0, .int .i64 0, .string ⟨#[]⟩, .int .i64 0]), 6, 56) := by kernel_rfl
theorem aCs_one : ∀ (l : List In), ∀ v ∈ aCs l, v.oneCell' = true
  | [] => fun v h => by cases h
  | x :: l => fun v h => by
    simp only [aCs, List.mem_cons] at h
    rcases h with rfl | rfl | rfl | rfl | rfl | rfl | h <;> first | rfl | exact aCs_one l v h
structure Ln (W0 w wr : World) (base bl bx q B : Nat) (u : List UInt8) (b : Bk) (A : Option Addr) (n c : Nat) : Prop where
  hd : Hd W0 w wr bl bx q B u b A n c
  ow : wr.ownsRow base 34 6 (.slice A n c) n (aCs b.code)
  np : ∀ g, (Value.slice A n c).ownBlock = some g → g ≠ B ∧ g < bl ∧ g < bx
theorem Ln.next {W0 w wr w2 : World} {base bl bx q B : Nat} {u u' : List UInt8} {b : Bk} {A : Option Addr} {n c : Nat} (h : Ln W0 w wr base bl bx q B u b A n c) (hk : KeptQ bl wr w2) (hr : RdAt w2 bl bx u') : Ln W0 w w2 base bl bx q B u' b A n c :=
  ⟨h.hd.next hk hr, own_stay h.ow fun g hg => hk.block g (own_lt h.ow hg).2 (by have := h.np g hg; omega), h.np⟩
theorem Ln.far {W0 w wr : World} {base bl bx q B xb : Nat} {u : List UInt8} {b : Bk} {A : Option Addr} {n c i : Nat} {v : Value} (h : Ln W0 w wr base bl bx q B u b A n c) (hx : B < xb ∧ (Value.slice A n c).ownBlock ≠ some xb ∧ xb ≠ bl ∧ xb ≠ q ∧ xb ≠ bx ∧ w.heap.size ≤ xb) : Ln W0 w (wr.setCell ⟨xb, i, none⟩ v) base bl bx q B u b A n c := by
  obtain ⟨h1, h2, h3, h4, h5, h6⟩ := hx
  have hp := h.hd.pl
  have he : Below W0.heap.size W0 (wr.setCell ⟨xb, i, none⟩ v) := h.hd.ev.2.setCell (by show W0.heap.size ≤ xb; omega) _
  refine ⟨⟨⟨h.hd.ev.1, he⟩, ⟨h.hd.rd.ln.far (by show bl ≠ xb; omega) _, h.hd.rd.fs.far (by show bx ≠ xb; omega) _, h.hd.rd.ne, h.hd.rd.sz, W0, h.hd.ev.1, by omega, he⟩, h.hd.kp.set (.inr (by show w.heap.size ≤ xb; omega)) _, h.hd.bq.far (by show q ≠ xb; omega) _, h.hd.bb.far (by show B ≠ xb; omega) _, hp⟩,
    own_stay h.ow fun g hg => heap_setCell_other _ _ _ _ (by show g ≠ xb; rintro rfl; exact h2 hg), h.np⟩
set_option maxRecDepth 100000 in
theorem fld_at (op : Int) (w : World) : (Instr.field 90 (shV op) 1).run Tryz.prog w = .ok (.string (sh op).2.1) w := by
  kernel_rfl
set_option maxRecDepth 100000 in
set_option maxHeartbeats 4000000 in
theorem line47_any (s : List UInt8) (b : Bk) (A : Option Addr) (n c : Nat) (W0 w : World) (base bl bx L B : Nat) (hE : Env W0) (hW : Below W0.heap.size W0 w) (h : RdAt w bl bx s) (hB : Blk w B 28 (bkC b A n c)) (hp : (B < bl ∧ B < bx) ∧ W0.heap.size ≤ B)
    (hL : w.cell? ⟨L, 0, none⟩ = some (.string (S s))) (hn : b.code.length = n ∧ n ≤ 1000000) (ho : w.ownsRow base 34 6 (.slice A n c) n (aCs b.code)) (hb : ∀ g, (Value.slice A n c).ownBlock = some g → g ≠ B ∧ g < bl ∧ g < bx) (hbase : W0.heap.size ≤ base ∧ base ≤ w.heap.size) :
    Calls Tryz.prog 47 #[rdV bl bx, .pointer (some ⟨L, 0, none⟩), .pointer (some ⟨B, 0, none⟩)] w fun e w2 => KeptS (fun g => (g = B ∨ (Value.slice A n c).ownBlock = some g) ∨ g = bl) w w2 ∧
      ((∃ z r, e = .returned (.bool z) ∧ RdAt w2 bl bx r ∧ LnR base B b s (.slice A n c) w.heap.size (some (z, r)) w2) ∨ (e = badE ∧ LnR base B b s (.slice A n c) w.heap.size none w2)) := by
  obtain ⟨W, HW⟩ : ∃ X, Hid (X = w.alloc (.cells (rdCs bl bx) 81)) := ⟨_, rfl⟩
  obtain ⟨q, hq⟩ : ∃ q, Hid (q = w.heap.size) := ⟨_, rfl⟩
  have H0 := Lib.hid (show Ln W0 w W base bl bx q B s b A n c by
    have hb2 := bAlloc w (.cells (rdCs bl bx) 81)
    have h1 := h.ln.lt
    have h2 := h.fs.lt
    rw [HW.out, hq.out]
    exact ⟨⟨⟨hE, hW.trans (hb2.mono hW.size)⟩, h.next hb2, KeptS.of hb2, Blk.new _ _ _, hB.alloc _, by omega⟩, ho.alloc _, hb⟩)
  have HLC := Lib.hid (show W.cell? ⟨L, 0, none⟩ = some (.string (S s)) by rw [HW.out]; exact cell_keep (bAlloc _ _) hL)
  have HLT := Lib.hid (World.block_lt_of_cell? W _ HLC.out)
  have HN := Lib.hid hn
  have HBS := Lib.hid hbase
  have HSZ := Lib.hid (show s.length ≤ 1000000 from h.sz)
  obtain ⟨m, hm⟩ := H0.out.hd.rd.envw.mx
  have HMX := Lib.hid hm
  clear hE hW h hB hp hL hn ho hb hbase hm
  go_enter Tryz.func47, Tryz.ntmps47
  go_upto_region 1 with fail
  rw [← HW.out, ← hq.out]
  have HQ := Lib.hid (show w.heap.size = q from hq.out.symm)
  clear HW hq
  have l0 := HLC.out
  have ll := HLT.out
  go_wp2_with fail
  refine (Tryz.strings_Cut (S s) ⟨#[32]⟩ m W (by rw [S_size]; have := HSZ.out; omega) HMX.out).mono ?_
  rintro e w1 ⟨rfl, k1, hw1⟩
  clear l0 ll
  obtain ⟨nm, hnm⟩ : ∃ x, Hid (x = s.takeWhile (· != 32)) := ⟨_, rfl⟩
  have HC1 := Lib.hid (show (⟨(Lib.cut (S s).data.toList [32]).1.toArray⟩ : ByteArray) = S nm by rw [S_list, cut_take, hnm.out]; rfl)
  have H1 := Lib.hid (show Ln W0 w w1 base bl bx q B s b A n c by
    have hd : Below W.heap.size W w1 := by rw [hw1]; exact bDrewN (Below.refl _ _) k1
    exact H0.out.next (KeptQ.of hd) (H0.out.hd.rd.next hd))
  clear hw1 H0 HLC HLT HMX
  generalize (⟨(Lib.cut (S s).data.toList (⟨#[32]⟩ : ByteArray).data.toList).2.1.toArray⟩ : ByteArray) = c2
  generalize (Lib.cut (S s).data.toList (⟨#[32]⟩ : ByteArray).data.toList).2.2 = c3
  rw [show (⟨(Lib.cut (S s).data.toList (⟨#[32]⟩ : ByteArray).data.toList).1.toArray⟩ : ByteArray) = S nm from HC1.out]
  clear HC1
  go_wp2_with fail
  refine (opcode_any nm w1).mono ?_
  rintro e w2 ⟨rfl, hb2⟩
  have H2 := Lib.hid (H1.out.next (KeptQ.of hb2) (H1.out.hd.rd.next hb2))
  clear hb2 H1
  obtain ⟨op, hop⟩ : ∃ x, Hid (x = opOf nm) := ⟨_, rfl⟩
  rw [← hop.out]
  have HLP := Lib.hid (show lineP s = if op = 0 then none else (fieldsP (flds op) ⟨op, 0, 0, 0, ⟨#[]⟩, 0⟩ (s.drop nm.length)).bind fun p => if fo p.1 && p.2.isEmpty then some p.1 else none by rw [hop.out, hnm.out]; rfl)
  by_cases h0 : op = 0
  · have HNO := Lib.hid (show lineP s = none by rw [HLP.out, if_pos h0])
    have q0 : (op == 0) = true := by simpa using h0
    clear h0
    go_wp2_with fail
    go_ret
    exact ⟨H2.out.hd.kp.more fun i _ h => by rcases h with h | h; exact .inl (.inl h); exact .inr h, .inl ⟨false, s, rfl, H2.out.hd.rd, ⟨_, rfl, H2.out.hd.bb⟩, ⟨0, 0, 0, 0, ⟨#[]⟩, 0⟩, HNO.out, fun h => absurd h (by simp)⟩⟩
  · have HLP2 := Lib.hid (show lineP s = (fieldsP (flds op) ⟨op, 0, 0, 0, ⟨#[]⟩, 0⟩ (s.drop nm.length)).bind fun p => if fo p.1 && p.2.isEmpty then some p.1 else none by rw [HLP.out, if_neg h0])
    have HOK := Lib.hid (show 1 ≤ op ∧ op ≤ 25 by
      have h1 := opOf_some (s := nm) (by rw [← hop.out]; exact h0)
      rw [← hop.out] at h1
      simpa [okOp] using h1.2)
    have q0 : (op == 0) = false := by simpa using h0
    clear h0 HLP
    have g0 := H2.out.hd.bq.cell 0
    have g1 := H2.out.hd.bq.cell 1
    have g2 := H2.out.hd.bq.cell 2
    have g3 := H2.out.hd.bq.cell 3
    have g4 := H2.out.hd.bq.cell 4
    have g5 := H2.out.hd.bq.cell 5
    have gl := H2.out.hd.bq.lt
    simp at g0 g1 g2 g3 g4 g5
    go_wp2_with fail
    refine (literal_any nm s bl bx w2 H2.out.hd.rd).mono ?_
    intro e w3 hr
    have HPF := Lib.hid (show litP nm s = some (s.drop nm.length) by
      unfold litP
      rw [if_pos (by rw [hnm.out]; exact List.isPrefixOf_iff_prefix.2 (List.takeWhile_prefix _))])
    rcases hr.cases with ⟨_, u3, ho, rfl, hrd, hkq⟩ | ⟨ho, rfl, hkq⟩
    rotate_left
    · exfalso
      rw [HPF.out] at ho
      cases ho
    have HU := Lib.hid (show s.drop nm.length = u3 by
      have h1 := lit_map ho
      rw [HPF.out] at h1
      injection h1)
    have H3 := Lib.hid (H2.out.next hkq hrd)
    rw [HU.out] at HLP2
    clear hr ho hrd hkq g0 g1 g2 g3 g4 g5 gl H2 HPF q0
    go_upto_region 6 with fail
    rename_i K hK
    have HT : ∀ (xb : Nat) (x : In) (u : List UInt8) (Y : World) (t24 t25 t26 t27 t28 t29 t30 : Value), Hid (Ln W0 w Y base bl bx q B u b A n c) → Hid (BoxI Y xb x) → Hid (xb ≠ B ∧ (Value.slice A n c).ownBlock ≠ some xb) → Hid (lineP s = if fo x && u.isEmpty then some x else none) →
        K { tmps := #[rdV bl bx, .pointer (some ⟨L, 0, none⟩), .pointer (some ⟨B, 0, none⟩), .pointer (some ⟨q, 0, none⟩), .bool false, .string (S nm), .string c2, .bool c3, .int .i64 op, .pointer (some ⟨xb, 0, none⟩), .tuple #[.string (S nm), .string c2, .bool c3], .string (S s), .tuple #[.string (S nm), .string c2, .bool c3], .string (S nm), .string c2, .bool c3, .string (S nm), .int .i64 op, .int .i64 op, .bool false, .pointer (some ⟨q, 0, none⟩), .func (.func 113) #[] #[.pointer (some ⟨bx, 0, none⟩), .pointer (some ⟨bl, 0, none⟩)], .string (S nm), .tuple #[], t24, t25, t26, t27, t28, t29, t30, undef, undef, undef, undef, undef, undef, undef, undef], defers := [] } Y := by
      intro xb x u Y t24 t25 t26 t27 t28 t29 t30 HY HX HXN HLX
      refine hK _ _ ?_
      obtain ⟨j34, hj1, hj2, hj3, hj4⟩ := info_parts info34
      have HJ3 := Lib.hid hj3
      have b8 := HY.out.hd.bb.cell 8
      have bl8 := HY.out.hd.bb.lt
      simp at b8
      obtain ⟨p0, p1, p2, p3, p4, p5⟩ := BoxI.cells HX.out
      have pl := Blk.lt HX.out
      clear hj3
      have hnn : n ≤ 1000000 := HN.out.2
      go_wp2_with (at_builtin; refine wpList_append_own_at _ rfl (.tmp 32) (.tmp 34) 26 rfl base 34 j34 (.agg #[.int .i64 0, .int .i64 0, .int .i64 0, .int .i64 0, .string ⟨#[]⟩, .int .i64 0]) 6 56 Tryz.underlying26 hj1 hj2 HJ3.out hj4 rfl (by decide) _ _ _ rfl (HY.out.ow.alloc _) ⟨Y.heap.size, 0, none⟩ 1 1 (aCs [x]) rfl rfl ?a1 ?a2 ?a3 ?a4 ?a5 ?_)
      case a1 =>
        intro j v hv
        have e : ((⟨Y.heap.size, 0, none⟩ : Addr).add j) = ⟨Y.heap.size, j, none⟩ := by
          simp [Addr.add]
          exact fun h => h.symm
        rw [e]
        exact ((Blk.new Y 34 _).cell j).trans (by rw [← hv, List.getElem?_toArray]; rfl)
      case a2 => exact aCs_one _
      case a3 => unfold maxLen; omega
      case a4 => omega
      case a5 => have := HY.out.hd.kp.size; have := HBS.out; simp; omega
      intro v' w4 ho4 hg4 _ hat4
      obtain ⟨A', c', rfl, -⟩ := own_form ho4
      have HO4 := Lib.hid ho4
      have HG4 := Lib.hid hg4
      have HAT := Lib.hid hat4
      have HB4 := Lib.hid (Blk.grown (Blk.alloc HY.out.hd.bb (.cells #[.int .i64 x.op, .int .i64 x.r, .int .i64 x.a, .int .i64 x.n, .string x.nm, .int .i64 x.ar] 34)) hg4 (fun e => (HY.out.np B e).1 rfl))
      have HX4 := Lib.hid (show BoxI w4 xb x from Blk.grown (Blk.alloc HX.out (.cells #[.int .i64 x.op, .int .i64 x.r, .int .i64 x.a, .int .i64 x.n, .string x.nm, .int .i64 x.ar] 34)) hg4 HXN.out.2)
      clear ho4 hg4 hat4 b8 bl8 p0 p1 p2 p3 p4 p5 pl
      have b8 := HB4.out.cell 8
      have f8 := HB4.out.frozen 8
      have bl8 := HB4.out.lt
      simp at b8
      go_upto_region 8 with fail
      obtain ⟨w5, hw5⟩ : ∃ X, Hid (X = w4.setCell ⟨B, 8, none⟩ (.slice A' (n + 1) c')) := ⟨_, rfl⟩
      have HB5 := Lib.hid (show Blk w5 B 28 (bkC { b with code := b.code ++ [x] } A' (n + 1) c') by rw [hw5.out]; simpa using HB4.out.set_ 8 (.slice A' (n + 1) c'))
      have HX5 := Lib.hid (show BoxI w5 xb x by rw [hw5.out]; exact Blk.far HX4.out (by have := HXN.out.1; show xb ≠ B; exact this) _)
      have HNB := Lib.hid (show ∀ g, (Value.slice A' (n + 1) c').ownBlock = some g → g ≠ B by
        intro g hg e
        rcases HAT.out with h1 | h1
        · rw [h1] at hg; exact (HY.out.np g hg).1 e
        · rw [h1] at hg
          injection hg with hg
          have := HY.out.hd.bb.lt
          try simp at hg
          omega)
      have HO5 := Lib.hid (show w5.ownsRow base 34 6 (.slice A' (n + 1) c') (n + 1) (aCs (b.code ++ [x])) by
        rw [hw5.out, aCs_app]
        exact own_stay HO4.out fun g hg => heap_setCell_other _ _ _ _ (by show g ≠ B; exact HNB.out g hg))
      have HE5 := Lib.hid (show Below W0.heap.size W0 w5 by
        rw [hw5.out]
        have hz := HY.out.hd.ev.2.size
        refine Below.setCell ((HY.out.hd.ev.2.alloc hz _).grown HG4.out (by simp; omega) (fun g e => ?_)) (by have := HY.out.hd.pl; show W0.heap.size ≤ B; omega) _
        have := (own_lt HY.out.ow e).1
        have := HBS.out
        omega)
      have HR5 := Lib.hid (show RdAt w5 bl bx u by
        have hp := HY.out.hd.pl
        refine ⟨?_, ?_, HY.out.hd.rd.ne, HY.out.hd.rd.sz, W0, HY.out.hd.ev.1, by omega, HE5.out⟩
        · rw [hw5.out]
          exact Blk.far (Blk.grown (Blk.alloc HY.out.hd.rd.ln _) HG4.out (fun e => by have := HY.out.np bl e; omega)) (by show bl ≠ B; omega) _
        · rw [hw5.out]
          exact Blk.far (Blk.grown (Blk.alloc HY.out.hd.rd.fs _) HG4.out (fun e => by have := HY.out.np bx e; omega)) (by show bx ≠ B; omega) _)
      have HK5 := Lib.hid (show KeptS (fun g => (g = B ∨ (Value.slice A n c).ownBlock = some g) ∨ g = bl) w w5 by
        rw [hw5.out]
        have h1 : KeptS (fun g => (g = B ∨ (Value.slice A n c).ownBlock = some g) ∨ g = bl) w Y := HY.out.hd.kp.more fun i _ h => by
          rcases h with h | h
          · exact .inl (.inl h)
          · exact .inr h
        exact ((h1.trans (KeptS.of (bAlloc Y _))).grown HG4.out (fun g e => .inl (.inl (.inr e)))).set (.inl (.inl (.inl rfl))) _)
      have HA5 := Lib.hid (show (Value.slice A' (n + 1) c').ownBlock = (Value.slice A n c).ownBlock ∨ ∃ g, (Value.slice A' (n + 1) c').ownBlock = some g ∧ w.heap.size ≤ g by
        rcases HAT.out with h1 | h1
        · exact .inl h1
        · refine .inr ⟨_, h1, ?_⟩
          have := HY.out.hd.kp.size
          try simp
          omega)
      rw [← hw5.out]
      clear hw5 b8 f8 bl8
      obtain ⟨p0, p1, p2, p3, p4, p5⟩ := BoxI.cells HX5.out
      have pl := Blk.lt HX5.out
      go_wp2_with fail
      refine (formed_any x w5).mono ?_
      rintro e w6 ⟨rfl, hb6⟩
      have HB6 := Lib.hid hb6
      clear hb6 p0 p1 p2 p3 p4 p5 pl
      go_wp2_with fail
      go_ret
      refine ⟨HK5.out.trans (KeptS.of HB6.out), .inl ⟨fo x, u, rfl, HR5.out.next HB6.out, ⟨_, rfl, HB5.out.next HB6.out⟩, x, HLX.out, fun _ => ⟨_, ⟨A', n + 1, c', ?_, rfl, HB5.out.next HB6.out, own_next HO5.out HB6.out⟩, HA5.out⟩⟩⟩
      simp [HN.out.1]
    obtain ⟨D, hD⟩ : ∃ X, Hid (X = w3.drew) := ⟨_, rfl⟩
    have HD := Lib.hid (show Ln W0 w D base bl bx q B u3 b A n c by
      have hd : Below w3.heap.size w3 D := by rw [hD.out]; exact bDrewN (Below.refl _ _) 1
      exact H3.out.next (KeptQ.of hd) (H3.out.hd.rd.next hd))
    clear H3
    have hix := fun w => tab_at op HOK.out.1 HOK.out.2 w
    have hfd := fld_at op
    refine wp_region_N (fun w' => Blk w' q 81 (rdCs bl bx)) (fun _ => true) (by kernel_rfl) ?_
    rw [← hD.out]
    clear hD
    have hS0 := HD.out.hd.bq
    refine wpAnyN_take (i := 0) (v := ?v1) rfl (by kernel_rfl) (by kernel_rfl) (by kernel_rfl) (by kernel_rfl) (fun _ _ _ h => h) (Or.inl ⟨by rfl, ?hy1⟩) (by assumption) ?_
    case hy1 => intro w hSw; have g0 := hSw.cell 0; have g1 := hSw.cell 1; have g2 := hSw.cell 2; have g3 := hSw.cell 3; have g4 := hSw.cell 4; have g5 := hSw.cell 5; have gl := hSw.lt; simp at g0 g1 g2 g3 g4 g5; go_simp; try with_reducible rfl
    simp only [Act.put, List.getElem_toArray, List.getElem_cons_zero, List.setIfInBounds_toArray, List.set_cons_zero, List.set_cons_succ]
    refine wpAnyN_take (i := 1) (v := ?v2) rfl (by kernel_rfl) (by kernel_rfl) (by kernel_rfl) (by kernel_rfl) (fun _ _ _ h => h) (Or.inl ⟨by rfl, ?hy2⟩) (by assumption) ?_
    case hy2 => intro w hSw; (try dsimp only at hSw); go_simp; try with_reducible rfl
    simp only [Act.put, List.getElem_toArray, List.getElem_cons_zero, List.getElem_cons_succ, List.setIfInBounds_toArray, List.set_cons_zero, List.set_cons_succ]
    refine wpAnyN_take (i := 3) (v := ?v3) rfl (by kernel_rfl) (by kernel_rfl) (by kernel_rfl) (by kernel_rfl) (fun _ _ _ h => h) (Or.inl ⟨by rfl, ?hy3⟩) (by assumption) ?_
    case hy3 => intro w hSw; (try dsimp only at hSw); go_simp; try with_reducible rfl
    simp only [Act.put, List.getElem_toArray, List.getElem_cons_zero, List.getElem_cons_succ, List.setIfInBounds_toArray, List.set_cons_zero, List.set_cons_succ]
    refine wpAnyN_two (i := 2) (j := 7) (by kernel_rfl) rfl rfl (fun K hK => ?_) (fun K hK => ?_)
    · simp only [List.getElem_toArray, List.getElem_cons_zero, List.getElem_cons_succ]
      go_simp
      refine (shapes_any D).mono ?_
      rintro e X1 ⟨rfl, hb⟩
      have HB2 := Lib.hid hb
      have HD1 := Lib.hid (HD.out.next (KeptQ.of hb) (HD.out.hd.rd.next hb))
      refine hK _ _ (fun _ => HD1.out.hd.bq) ?_
      clear hb hK
      have hS1 := HD1.out.hd.bq
      refine wpAnyN_take (i := 4) (v := ?v4) rfl (by kernel_rfl) (by kernel_rfl) (by kernel_rfl) (by kernel_rfl) (fun _ _ _ h => h) (Or.inl ⟨by rfl, ?hy4⟩) (by assumption) ?_
      case hy4 => intro w hSw; (try dsimp only at hSw); go_simp; try with_reducible rfl
      simp only [Act.put, List.getElem_toArray, List.getElem_cons_zero, List.getElem_cons_succ, List.setIfInBounds_toArray, List.set_cons_zero, List.set_cons_succ]
      refine wpAnyN_take (i := 5) (v := ?v5) rfl (by kernel_rfl) (by kernel_rfl) (by kernel_rfl) (by kernel_rfl) (fun _ _ _ h => h) (Or.inl ⟨by rfl, ?hy5⟩) (by assumption) ?_
      case hy5 => intro w hSw; (try dsimp only at hSw); go_simp; try with_reducible rfl
      simp only [Act.put, List.getElem_toArray, List.getElem_cons_zero, List.getElem_cons_succ, List.setIfInBounds_toArray, List.set_cons_zero, List.set_cons_succ]
      refine wpAnyN_two (i := 6) (j := 7) (by kernel_rfl) rfl rfl (fun K hK => ?_) (fun K hK => ?_)
      · simp only [List.getElem_toArray, List.getElem_cons_zero, List.getElem_cons_succ]
        go_simp
        refine (rdinstr_any op u3 bl bx X1 HD1.out.hd.rd).mono ?_
        intro e X2 hr
        rcases hr.cases with ⟨x, u4, ho, rfl, hrd, hkq⟩ | ⟨ho, rfl, hkq⟩
        rotate_left
        · have HNO := Lib.hid (show lineP s = none by rw [HLP2.out, ho]; rfl)
          have hkk := (HD1.out.hd.kp.trans (KeptS.ofQ hkq (.inr rfl))).more (Q := fun g => (g = B ∨ (Value.slice A n c).ownBlock = some g) ∨ g = bl) fun i _ h => by
            rcases h with h | h
            · exact .inl (.inl h)
            · exact .inr h
          exact ⟨rfl, hkk, .inr ⟨rfl, ⟨_, rfl, hkq.blk HD1.out.hd.bb (by have := HD1.out.hd.pl; omega)⟩, HNO.out⟩⟩
        have HLX := Lib.hid (show lineP s = if fo x && u4.isEmpty then some x else none by rw [HLP2.out, ho]; rfl)
        have HD2 := Lib.hid (HD1.out.next hkq hrd)
        have HKQ := Lib.hid hkq
        refine hK _ _ (fun _ => HD2.out.hd.bq) ?_
        clear hr ho hrd hkq hK
        refine wpAnyN_one (i := 7) (by kernel_rfl) rfl (fun K hK => ?_)
        simp only [List.getElem_toArray, List.getElem_cons_zero, List.getElem_cons_succ]
        go_simp
        obtain ⟨X3, hW2⟩ : ∃ X, Hid (X = X2.alloc (.cells #[.int .i64 0, .int .i64 0, .int .i64 0, .int .i64 0, .string ⟨#[]⟩, .int .i64 0] 34)) := ⟨_, rfl⟩
        obtain ⟨xb, hxb⟩ : ∃ X, Hid (X = X2.heap.size) := ⟨_, rfl⟩
        have HB7 := Lib.hid (show Below X2.heap.size X2 X3 by rw [hW2.out]; exact bAlloc _ _)
        have HX := Lib.hid (show BoxI X3 xb zIn by rw [hW2.out, hxb.out]; exact BoxI.new _ zIn)
        have HD3 := Lib.hid (HD2.out.next (KeptQ.of HB7.out) (HD2.out.hd.rd.next HB7.out))
        have HXN := Lib.hid (show B < xb ∧ (Value.slice A n c).ownBlock ≠ some xb ∧ xb ≠ bl ∧ xb ≠ q ∧ xb ≠ bx ∧ w.heap.size ≤ xb by
          have h1 := HD2.out.hd.bb.lt
          have h2 := HD2.out.hd.rd.ln.lt
          have h3 := HD2.out.hd.bq.lt
          have h4 := HD2.out.hd.rd.fs.lt
          have h5 := HD2.out.hd.kp.size
          rw [hxb.out]
          refine ⟨by omega, fun e => ?_, by omega, by omega, by omega, by omega⟩
          have := (own_lt HD2.out.ow e).2
          omega)
        rw [← hW2.out, ← hxb.out]
        refine hK _ _ (fun _ => HD3.out.hd.bq) ?_
        clear hW2 hxb hK
        obtain ⟨p0, p1, p2, p3, p4, p5⟩ := BoxI.cells HX.out
        obtain ⟨f0, f1, f2, f3, f4, f5⟩ := BoxI.open_ HX.out
        have pl := Blk.lt HX.out
        simp only [] at p0 p1 p2 p3 p4 p5
        refine wpAnyN_one (i := 8) (by kernel_rfl) rfl (fun K hK => ?_)
        simp only [List.getElem_toArray, List.getElem_cons_zero, List.getElem_cons_succ]
        go_simp
        obtain ⟨X9, hX9⟩ : ∃ X, Hid (X = (((((X3.setCell ⟨xb, 0, none⟩ (.int .i64 x.op)).setCell ⟨xb, 1, none⟩ (.int .i64 x.r)).setCell ⟨xb, 2, none⟩ (.int .i64 x.a)).setCell ⟨xb, 3, none⟩ (.int .i64 x.n)).setCell ⟨xb, 4, none⟩ (.string x.nm)).setCell ⟨xb, 5, none⟩ (.int .i64 x.ar)) := ⟨_, rfl⟩
        rw [← hX9.out]
        have HX9 := Lib.hid (show BoxI X9 xb x by
          rw [hX9.out]
          have h := (((((Blk.set_ HX.out 0 (.int .i64 x.op)).set_ 1 (.int .i64 x.r)).set_ 2 (.int .i64 x.a)).set_ 3 (.int .i64 x.n)).set_ 4 (.string x.nm)).set_ 5 (.int .i64 x.ar)
          unfold BoxI
          simpa using h)
        have HN9 := Lib.hid (show Ln W0 w X9 base bl bx q B u4 b A n c by
          rw [hX9.out]
          exact (((((HD3.out.far HXN.out).far HXN.out).far HXN.out).far HXN.out).far HXN.out).far HXN.out)
        refine hK _ _ (fun _ => HN9.out.hd.bq) ?_
        refine wpAnyN_done (by kernel_rfl) ?_ _
        exact HT xb x u4 X9 _ _ _ _ _ _ _ HN9 HX9 (Lib.hid ⟨by have := HXN.out.1; omega, HXN.out.2.1⟩) HLX
      · simp only [List.getElem_toArray, List.getElem_cons_zero, List.getElem_cons_succ]
        go_simp
        obtain ⟨X2, hW2⟩ : ∃ X, Hid (X = X1.alloc (.cells #[.int .i64 0, .int .i64 0, .int .i64 0, .int .i64 0, .string ⟨#[]⟩, .int .i64 0] 34)) := ⟨_, rfl⟩
        obtain ⟨xb, hxb⟩ : ∃ X, Hid (X = X1.heap.size) := ⟨_, rfl⟩
        have HB7 := Lib.hid (show Below X1.heap.size X1 X2 by rw [hW2.out]; exact bAlloc _ _)
        have HX := Lib.hid (show BoxI X2 xb zIn by rw [hW2.out, hxb.out]; exact BoxI.new _ zIn)
        have HD2 := Lib.hid (HD1.out.next (KeptQ.of HB7.out) (HD1.out.hd.rd.next HB7.out))
        have HXN := Lib.hid (show B < xb ∧ (Value.slice A n c).ownBlock ≠ some xb ∧ xb ≠ bl ∧ xb ≠ q ∧ xb ≠ bx ∧ w.heap.size ≤ xb by
          have h1 := HD1.out.hd.bb.lt
          have h2 := HD1.out.hd.rd.ln.lt
          have h3 := HD1.out.hd.bq.lt
          have h4 := HD1.out.hd.rd.fs.lt
          have h5 := HD1.out.hd.kp.size
          rw [hxb.out]
          refine ⟨by omega, fun e => ?_, by omega, by omega, by omega, by omega⟩
          have := (own_lt HD1.out.ow e).2
          omega)
        rw [← hW2.out, ← hxb.out]
        refine hK _ _ (fun _ => HD2.out.hd.bq) ?_
        clear hW2 hxb hK
        refine wpAnyN_one (i := 6) (by kernel_rfl) rfl (fun K hK => ?_)
        simp only [List.getElem_toArray, List.getElem_cons_zero, List.getElem_cons_succ]
        go_simp
        refine (rdinstr_any op u3 bl bx X2 HD2.out.hd.rd).mono ?_
        intro e X3 hr
        rcases hr.cases with ⟨x, u4, ho, rfl, hrd, hkq⟩ | ⟨ho, rfl, hkq⟩
        rotate_left
        · have HNO := Lib.hid (show lineP s = none by rw [HLP2.out, ho]; rfl)
          have hkk := (HD2.out.hd.kp.trans (KeptS.ofQ hkq (.inr rfl))).more (Q := fun g => (g = B ∨ (Value.slice A n c).ownBlock = some g) ∨ g = bl) fun i _ h => by
            rcases h with h | h
            · exact .inl (.inl h)
            · exact .inr h
          exact ⟨rfl, hkk, .inr ⟨rfl, ⟨_, rfl, hkq.blk HD2.out.hd.bb (by have := HD2.out.hd.pl; omega)⟩, HNO.out⟩⟩
        have HLX := Lib.hid (show lineP s = if fo x && u4.isEmpty then some x else none by rw [HLP2.out, ho]; rfl)
        have HD3 := Lib.hid (HD2.out.next hkq hrd)
        have HKQ := Lib.hid hkq
        refine hK _ _ (fun _ => HD3.out.hd.bq) ?_
        clear hr ho hrd hkq hK
        have HX0 := HX
        clear HX
        have HX := Lib.hid (show BoxI X3 xb zIn from HKQ.out.blk HX0.out (by have := HXN.out; omega))
        obtain ⟨p0, p1, p2, p3, p4, p5⟩ := BoxI.cells HX.out
        obtain ⟨f0, f1, f2, f3, f4, f5⟩ := BoxI.open_ HX.out
        have pl := Blk.lt HX.out
        simp only [] at p0 p1 p2 p3 p4 p5
        refine wpAnyN_one (i := 8) (by kernel_rfl) rfl (fun K hK => ?_)
        simp only [List.getElem_toArray, List.getElem_cons_zero, List.getElem_cons_succ]
        go_simp
        obtain ⟨X9, hX9⟩ : ∃ X, Hid (X = (((((X3.setCell ⟨xb, 0, none⟩ (.int .i64 x.op)).setCell ⟨xb, 1, none⟩ (.int .i64 x.r)).setCell ⟨xb, 2, none⟩ (.int .i64 x.a)).setCell ⟨xb, 3, none⟩ (.int .i64 x.n)).setCell ⟨xb, 4, none⟩ (.string x.nm)).setCell ⟨xb, 5, none⟩ (.int .i64 x.ar)) := ⟨_, rfl⟩
        rw [← hX9.out]
        have HX9 := Lib.hid (show BoxI X9 xb x by
          rw [hX9.out]
          have h := (((((Blk.set_ HX.out 0 (.int .i64 x.op)).set_ 1 (.int .i64 x.r)).set_ 2 (.int .i64 x.a)).set_ 3 (.int .i64 x.n)).set_ 4 (.string x.nm)).set_ 5 (.int .i64 x.ar)
          unfold BoxI
          simpa using h)
        have HN9 := Lib.hid (show Ln W0 w X9 base bl bx q B u4 b A n c by
          rw [hX9.out]
          exact (((((HD3.out.far HXN.out).far HXN.out).far HXN.out).far HXN.out).far HXN.out).far HXN.out)
        refine hK _ _ (fun _ => HN9.out.hd.bq) ?_
        refine wpAnyN_done (by kernel_rfl) ?_ _
        exact HT xb x u4 X9 _ _ _ _ _ _ _ HN9 HX9 (Lib.hid ⟨by have := HXN.out.1; omega, HXN.out.2.1⟩) HLX
    · simp only [List.getElem_toArray, List.getElem_cons_zero, List.getElem_cons_succ]
      go_simp
      obtain ⟨X1, hW2⟩ : ∃ X, Hid (X = D.alloc (.cells #[.int .i64 0, .int .i64 0, .int .i64 0, .int .i64 0, .string ⟨#[]⟩, .int .i64 0] 34)) := ⟨_, rfl⟩
      obtain ⟨xb, hxb⟩ : ∃ X, Hid (X = D.heap.size) := ⟨_, rfl⟩
      have HB7 := Lib.hid (show Below D.heap.size D X1 by rw [hW2.out]; exact bAlloc _ _)
      have HX := Lib.hid (show BoxI X1 xb zIn by rw [hW2.out, hxb.out]; exact BoxI.new _ zIn)
      have HD1 := Lib.hid (HD.out.next (KeptQ.of HB7.out) (HD.out.hd.rd.next HB7.out))
      have HXN := Lib.hid (show B < xb ∧ (Value.slice A n c).ownBlock ≠ some xb ∧ xb ≠ bl ∧ xb ≠ q ∧ xb ≠ bx ∧ w.heap.size ≤ xb by
        have h1 := HD.out.hd.bb.lt
        have h2 := HD.out.hd.rd.ln.lt
        have h3 := HD.out.hd.bq.lt
        have h4 := HD.out.hd.rd.fs.lt
        have h5 := HD.out.hd.kp.size
        rw [hxb.out]
        refine ⟨by omega, fun e => ?_, by omega, by omega, by omega, by omega⟩
        have := (own_lt HD.out.ow e).2
        omega)
      rw [← hW2.out, ← hxb.out]
      refine hK _ _ (fun _ => HD1.out.hd.bq) ?_
      clear hW2 hxb hK
      refine wpAnyN_one (i := 2) (by kernel_rfl) rfl (fun K hK => ?_)
      simp only [List.getElem_toArray, List.getElem_cons_zero, List.getElem_cons_succ]
      go_simp
      refine (shapes_any X1).mono ?_
      rintro e X2 ⟨rfl, hb⟩
      have HB2 := Lib.hid hb
      have HD2 := Lib.hid (HD1.out.next (KeptQ.of hb) (HD1.out.hd.rd.next hb))
      refine hK _ _ (fun _ => HD2.out.hd.bq) ?_
      clear hb hK
      have hS1 := HD2.out.hd.bq
      refine wpAnyN_take (i := 4) (v := ?v6) rfl (by kernel_rfl) (by kernel_rfl) (by kernel_rfl) (by kernel_rfl) (fun _ _ _ h => h) (Or.inl ⟨by rfl, ?hy6⟩) (by assumption) ?_
      case hy6 => intro w hSw; (try dsimp only at hSw); go_simp; try with_reducible rfl
      simp only [Act.put, List.getElem_toArray, List.getElem_cons_zero, List.getElem_cons_succ, List.setIfInBounds_toArray, List.set_cons_zero, List.set_cons_succ]
      refine wpAnyN_take (i := 5) (v := ?v7) rfl (by kernel_rfl) (by kernel_rfl) (by kernel_rfl) (by kernel_rfl) (fun _ _ _ h => h) (Or.inl ⟨by rfl, ?hy7⟩) (by assumption) ?_
      case hy7 => intro w hSw; (try dsimp only at hSw); go_simp; try with_reducible rfl
      simp only [Act.put, List.getElem_toArray, List.getElem_cons_zero, List.getElem_cons_succ, List.setIfInBounds_toArray, List.set_cons_zero, List.set_cons_succ]
      have HX1 := HX
      clear HX
      have HX2 := Lib.hid (show BoxI X2 xb zIn from Blk.next HX1.out HB2.out)
      refine wpAnyN_one (i := 6) (by kernel_rfl) rfl (fun K hK => ?_)
      simp only [List.getElem_toArray, List.getElem_cons_zero, List.getElem_cons_succ]
      go_simp
      refine (rdinstr_any op u3 bl bx X2 HD2.out.hd.rd).mono ?_
      intro e X3 hr
      rcases hr.cases with ⟨x, u4, ho, rfl, hrd, hkq⟩ | ⟨ho, rfl, hkq⟩
      rotate_left
      · have HNO := Lib.hid (show lineP s = none by rw [HLP2.out, ho]; rfl)
        have hkk := (HD2.out.hd.kp.trans (KeptS.ofQ hkq (.inr rfl))).more (Q := fun g => (g = B ∨ (Value.slice A n c).ownBlock = some g) ∨ g = bl) fun i _ h => by
          rcases h with h | h
          · exact .inl (.inl h)
          · exact .inr h
        exact ⟨rfl, hkk, .inr ⟨rfl, ⟨_, rfl, hkq.blk HD2.out.hd.bb (by have := HD2.out.hd.pl; omega)⟩, HNO.out⟩⟩
      have HLX := Lib.hid (show lineP s = if fo x && u4.isEmpty then some x else none by rw [HLP2.out, ho]; rfl)
      have HD3 := Lib.hid (HD2.out.next hkq hrd)
      have HKQ := Lib.hid hkq
      refine hK _ _ (fun _ => HD3.out.hd.bq) ?_
      clear hr ho hrd hkq hK
      have HX := Lib.hid (show BoxI X3 xb zIn from HKQ.out.blk HX2.out (by have := HXN.out; omega))
      obtain ⟨p0, p1, p2, p3, p4, p5⟩ := BoxI.cells HX.out
      obtain ⟨f0, f1, f2, f3, f4, f5⟩ := BoxI.open_ HX.out
      have pl := Blk.lt HX.out
      simp only [] at p0 p1 p2 p3 p4 p5
      refine wpAnyN_one (i := 8) (by kernel_rfl) rfl (fun K hK => ?_)
      simp only [List.getElem_toArray, List.getElem_cons_zero, List.getElem_cons_succ]
      go_simp
      obtain ⟨X9, hX9⟩ : ∃ X, Hid (X = (((((X3.setCell ⟨xb, 0, none⟩ (.int .i64 x.op)).setCell ⟨xb, 1, none⟩ (.int .i64 x.r)).setCell ⟨xb, 2, none⟩ (.int .i64 x.a)).setCell ⟨xb, 3, none⟩ (.int .i64 x.n)).setCell ⟨xb, 4, none⟩ (.string x.nm)).setCell ⟨xb, 5, none⟩ (.int .i64 x.ar)) := ⟨_, rfl⟩
      rw [← hX9.out]
      have HX9 := Lib.hid (show BoxI X9 xb x by
        rw [hX9.out]
        have h := (((((Blk.set_ HX.out 0 (.int .i64 x.op)).set_ 1 (.int .i64 x.r)).set_ 2 (.int .i64 x.a)).set_ 3 (.int .i64 x.n)).set_ 4 (.string x.nm)).set_ 5 (.int .i64 x.ar)
        unfold BoxI
        simpa using h)
      have HN9 := Lib.hid (show Ln W0 w X9 base bl bx q B u4 b A n c by
        rw [hX9.out]
        exact (((((HD3.out.far HXN.out).far HXN.out).far HXN.out).far HXN.out).far HXN.out).far HXN.out)
      refine hK _ _ (fun _ => HN9.out.hd.bq) ?_
      refine wpAnyN_done (by kernel_rfl) ?_ _
      exact HT xb x u4 X9 _ _ _ _ _ _ _ HN9 HX9 (Lib.hid ⟨by have := HXN.out.1; omega, HXN.out.2.1⟩) HLX
end
section
open Go.RowKit

/-- the lines of a text -/
def splitL (l : List UInt8) : List (List UInt8) := Lib.splitK [10] 0 (l.count 10) l
theorem splitL_no {l : List UInt8} (h : (10 : UInt8) ∉ l) : splitL l = [l] := by
  unfold splitL
  rw [List.count_eq_zero.2 h]
  rfl
theorem ib_app (r : List UInt8) : ∀ {a : List UInt8}, (10 : UInt8) ∉ a → Lib.indexByte (a ++ 10 :: r) 10 = a.length
  | [], _ => rfl
  | b :: a, h => by
    have hb : (b == 10) = false := by simp at h ⊢; exact fun e => h.1 e.symm
    have := ib_app r (a := a) (fun e => h (List.mem_cons_of_mem _ e))
    show Lib.indexByte (b :: (a ++ 10 :: r)) 10 = _
    unfold Lib.indexByte
    rw [hb, this, if_neg (by simp), if_neg (by simp)]
    simp
theorem splitL_app {a r : List UInt8} (h : (10 : UInt8) ∉ a) : splitL (a ++ 10 :: r) = a :: splitL r := by
  unfold splitL
  rw [List.count_append, List.count_eq_zero.2 h, List.count_cons_self, Nat.zero_add, Lib.splitK, Lib.index_one, ib_app r h, if_neg (by simp)]
  simp
theorem split_cases : ∀ l : List UInt8, (10 : UInt8) ∉ l ∨ ∃ a r, (10 : UInt8) ∉ a ∧ l = a ++ 10 :: r
  | [] => .inl (by simp)
  | b :: l => by
    by_cases hb : b = 10
    · exact .inr ⟨[], l, by simp, by rw [hb]; rfl⟩
    · rcases split_cases l with h | ⟨a, r, h, rfl⟩
      · exact .inl (by simp; exact ⟨fun e => hb e.symm, h⟩)
      · exact .inr ⟨b :: a, r, by simp; exact ⟨fun e => hb e.symm, h⟩, rfl⟩
/-- a text is its lines -/
theorem splitL_back : ∀ (n : Nat) (l : List UInt8), l.length ≤ n → ∃ p x, splitL l = p ++ [x] ∧ l = p.flatMap (· ++ [10]) ++ x
  | 0, l, h => by
    obtain rfl : l = [] := List.length_eq_zero_iff.1 (by omega)
    exact ⟨[], [], rfl, rfl⟩
  | n + 1, l, h => by
    rcases split_cases l with h1 | ⟨a, r, h1, rfl⟩
    · exact ⟨[], l, splitL_no h1, by simp⟩
    · obtain ⟨p, x, e1, e2⟩ := splitL_back n r (by simp at h; omega)
      refine ⟨a :: p, x, by rw [splitL_app h1, e1]; rfl, ?_⟩
      rw [List.flatMap_cons, List.append_assoc, List.append_assoc, ← e2]
      simp
/-- lines, each ended, are read back -/
theorem splitL_lines : ∀ (ls : List (List UInt8)), (∀ l ∈ ls, (10 : UInt8) ∉ l) → splitL (ls.flatMap (· ++ [10])) = ls ++ [[]]
  | [], _ => rfl
  | l :: ls, h => by
    rw [List.flatMap_cons, List.append_assoc]
    show splitL (l ++ 10 :: ls.flatMap (· ++ [10])) = _
    rw [splitL_app (h l (by simp)), splitL_lines ls fun x hx => h x (by simp [hx])]
    rfl
/-- the lines of a block are read: an error's line, or a block -/
def goP : List (List UInt8) → Nat → Bk → Except Nat Bk
  | [], _, b => .ok b
  | s :: r, k, b => if k = 0 then match headP s with | some b => goP r (k + 1) b | none => .error (k + 1)
    else match lineP s with | some x => goP r (k + 1) { b with code := b.code ++ [x] } | none => .error (k + 1)
/-- what Parse answers: a block, a line, an error -/
def parseV (t : List UInt8) : Bk × Int × Int :=
  if 16384 < t.length then (zBk, 0, 2) else
  match goP (splitL t).dropLast 0 zBk with
  | .error k => (zBk, k, 3)
  | .ok b => if (splitL t).length = 1 ∨ (splitL t).getLast? ≠ some [] then (zBk, (splitL t).length, 3) else if vaP b then (b, 0, 0) else (zBk, 0, 1)
theorem goP_len : ∀ (ls : List (List UInt8)) (k : Nat) (b b2 : Bk), 0 < k → goP ls k b = .ok b2 → ∃ xs, b2 = { b with code := b.code ++ xs } ∧ xs.length = ls.length ∧ xs.map lineL = ls
  | [], k, b, b2, _, h => by
    injection h with h
    exact ⟨[], by rw [← h]; simp, rfl, rfl⟩
  | s :: r, k, b, b2, hk, h => by
    unfold goP at h
    rw [if_neg (by omega)] at h
    cases hx : lineP s with
    | none => rw [hx] at h; cases h
    | some x =>
      rw [hx] at h
      obtain ⟨xs, e1, e2, e3⟩ := goP_len r (k + 1) _ b2 (by omega) h
      exact ⟨x :: xs, by rw [e1]; simp, by simp [e2], by simp [e3, (lineP_some hx).2.1]⟩
end
end Go.Proofs.YtbipeakinmbdiaaGreatDoor
