/-
  Plain: what ParseInt tells of the numbers that are listed. Memory: a reader of a line. Walks: the functions of a reader that look at what is left of the line, and take a literal.
-/
import Derived.Test.YtbipeakinmbdiaaGreatDoorKj
namespace Go.Proofs.YtbipeakinmbdiaaGreatDoor
section
open Go.RowKit

theorem pum_app (M : Nat) (m : List UInt8) : ∀ (l : List UInt8) (acc : Nat), Lib.parseUintM M acc (l ++ m) = match Lib.parseUintM M acc l with
    | .ok a => Lib.parseUintM M a m | Lib.NumEnd.syntax => Lib.NumEnd.syntax | .range => .range
  | [], acc => rfl
  | c :: r, acc => by
    simp only [List.cons_append, Lib.parseUintM]
    split
    · split
      · rfl
      · split
        · rfl
        · exact pum_app M m r _
    · rfl
theorem pum_dec (u : Nat) (hu : u ≤ 9223372036854775808) : Lib.parseUintM (2 ^ 64 - 1) 0 (Lib.decDigits u) = .ok u := by
  induction u using Nat.strongRecOn with
  | _ u ih =>
    have one : ∀ (d a : Nat), d < 10 → a * 10 + d ≤ 9223372036854775808 → Lib.parseUintM (2 ^ 64 - 1) a [UInt8.ofNat (48 + d)] = .ok (a * 10 + d) := fun d a hd ha => by
      unfold Lib.parseUintM
      rw [dig_one hd, if_pos (by omega), if_neg (by omega), show 48 + d - 48 = d by omega, if_neg (by omega)]
      rfl
    by_cases h : u < 10
    · rw [dec_last h, one u 0 h (by omega), Nat.zero_mul, Nat.zero_add]
    · rw [dec_more h, pum_app, ih (u / 10) (by omega) (by omega)]
      show Lib.parseUintM _ (u / 10) _ = _
      rw [one (u % 10) (u / 10) (by omega) (by omega)]
      congr 1
      omega
theorem pub_dec (u : Nat) (hu : u ≤ 9223372036854775808) : Lib.parseUintB 64 (Lib.decDigits u) = .ok u := by
  unfold Lib.parseUintB
  rw [if_neg (dig_ne u), pum_dec u hu]
theorem pib_num {n : Int} (h : inR n) : Lib.parseIntB 64 (numL n) = .ok n := by
  by_cases hn : n < 0
  · rw [num_neg hn]
    unfold Lib.parseIntB
    have hb := h.1
    simp only [show ((45 : UInt8).toNat = 43 ∨ (45 : UInt8).toNat = 45) from .inr rfl, if_true, pub_dec n.natAbs (by omega)]
    rw [if_neg (by simp), if_neg (by simp; omega), if_pos (by rfl)]
    congr 1
    omega
  · rw [num_pos hn]
    obtain ⟨c, t, ec, hc⟩ := dig_cases n.natAbs
    have hd := pub_dec n.natAbs (by have := h.2; omega)
    rw [ec] at hd ⊢
    unfold Lib.parseIntB
    have h2 : ¬ (c.toNat = 43 ∨ c.toNat = 45) := by unfold digB at hc; simp at hc; omega
    have h3 : ¬ (c.toNat = 45) := fun e => h2 (.inr e)
    simp only [h2, if_false, hd]
    have hb := h.2
    rw [if_neg (by simp [h3]; omega), if_neg (by simp [h3]), if_neg h3]
    congr 1
    omega
theorem pib_range {t : List UInt8} {v : Int} (h : Lib.parseIntB 64 t = .ok v) : inR v := by
  have := Lib.parseIntB_bounds h
  unfold inR
  omega
theorem decV_ok {t : List UInt8} {v : Int} (h : Lib.parseIntB 64 t = .ok v) : decV t = if numL v = t then some v else none := by
  by_cases e : numL v = t
  · rw [if_pos e, ← e]; exact decV_num (pib_range h)
  · rw [if_neg e]
    cases hd : decV t with
    | none => rfl
    | some v' =>
      have h2 := decV_some hd
      rw [← h2.2, pib_num h2.1] at h
      injection h with h
      rw [h] at h2
      exact absurd h2.2 e
theorem decV_no {t : List UInt8} (h : ∀ v, Lib.parseIntB 64 t ≠ .ok v) : decV t = none := by
  cases hd : decV t with
  | none => rfl
  | some v' =>
    have h2 := decV_some hd
    exact absurd (by rw [← h2.2]; exact pib_num h2.1) (h v')
/-- all blocks but one are kept -/
structure KeptQ (q : Nat) (w w' : World) : Prop where
  os : w'.os = w.os
  tape : w'.tape = w.tape
  output : w'.output = w.output
  size : w.heap.size ≤ w'.heap.size
  block : ∀ i, i < w.heap.size → i ≠ q → w'.heap[i]? = w.heap[i]?
theorem KeptQ.refl (q : Nat) (w : World) : KeptQ q w w := ⟨rfl, rfl, rfl, Nat.le_refl _, fun _ _ _ => rfl⟩
theorem KeptQ.of {q : Nat} {w w' : World} (h : Below w.heap.size w w') : KeptQ q w w' := ⟨h.os, h.tape, h.output, h.size, fun i hi _ => h.block i hi⟩
theorem KeptQ.trans {q : Nat} {w w1 w2 : World} (h : KeptQ q w w1) (j : KeptQ q w1 w2) : KeptQ q w w2 :=
  ⟨j.os.trans h.os, j.tape.trans h.tape, j.output.trans h.output, Nat.le_trans h.size j.size, fun i hi h1 => (j.block i (Nat.lt_of_lt_of_le hi h.size) h1).trans (h.block i hi h1)⟩
theorem KeptQ.low {q B : Nat} {w w' : World} (h : KeptQ q w w') (hq : B ≤ q) (hB : B ≤ w.heap.size) : Below B w w' :=
  ⟨h.os, h.tape, h.output, h.size, fun i hi => h.block i (Nat.lt_of_lt_of_le hi hB) (by omega)⟩
theorem KeptQ.set {q : Nat} {w w1 : World} (h : KeptQ q w w1) {p : Addr} (hp : p.block = q ∨ w.heap.size ≤ p.block) (v : Value) : KeptQ q w (w1.setCell p v) := by
  have hb : Below 0 w1 (w1.setCell p v) := (Below.refl _ _).setCell (Nat.zero_le _) _
  exact ⟨hb.os.trans h.os, hb.tape.trans h.tape, hb.output.trans h.output, Nat.le_trans h.size hb.size, fun i hi h1 => (heap_setCell_other _ _ _ _ (by rcases hp with e | e <;> omega)).trans (h.block i hi h1)⟩
theorem KeptQ.blk {q g : Nat} {w w' : World} {t : TypeId} {cs : Array Value} (h : KeptQ q w w') (hb : Blk w g t cs) (hg : g ≠ q) : Blk w' g t cs := (h.block g hb.lt hg).trans hb
/-- the functions of a reader -/
@[reducible] def rdCs (bl bx : Nat) : Array Value := #[.func (.func 113) #[] #[.pointer (some ⟨bx, 0, none⟩), .pointer (some ⟨bl, 0, none⟩)], .func (.func 110) #[] #[.pointer (some ⟨bl, 0, none⟩)], .func (.func 114) #[] #[.pointer (some ⟨bl, 0, none⟩)],
  .func (.func 116) #[] #[.pointer (some ⟨bx, 0, none⟩), .pointer (some ⟨bl, 0, none⟩)], .func (.func 119) #[] #[.pointer (some ⟨bx, 0, none⟩)], .func (.func 112) #[] #[.pointer (some ⟨bl, 0, none⟩)]]
/-- a reader of a line: what is left of it, and its functions -/
structure RdAt (w : World) (bl bx : Nat) (s : List UInt8) : Prop where
  ln : Blk w bl 9 #[.string (S s)]
  fs : Blk w bx 81 (rdCs bl bx)
  ne : bx ≠ bl
  sz : s.length ≤ 1000000
  env : ∃ W0, Env W0 ∧ W0.heap.size ≤ bl ∧ Below W0.heap.size W0 w
theorem RdAt.next {w w' : World} {bl bx : Nat} {s : List UInt8} (h : RdAt w bl bx s) (hb : Below w.heap.size w w') : RdAt w' bl bx s := ⟨h.ln.next hb, h.fs.next hb, h.ne, h.sz, by obtain ⟨W0, h1, h2, h3⟩ := h.env; exact ⟨W0, h1, h2, h3.trans (hb.mono h3.size)⟩⟩
theorem RdAt.envw {w : World} {bl bx : Nat} {s : List UInt8} (h : RdAt w bl bx s) : Env w := by obtain ⟨W0, h1, _, h3⟩ := h.env; exact h1.next h3
theorem RdAt.cells {w : World} {bl bx : Nat} {s : List UInt8} (h : RdAt w bl bx s) : w.cell? ⟨bl, 0, none⟩ = some (.string (S s)) ∧ bl < w.heap.size ∧ w.frozen? ⟨bl, 0, none⟩ = false := ⟨h.ln.cell 0, h.ln.lt, h.ln.frozen 0⟩
theorem RdAt.funs {w : World} {bl bx : Nat} {s : List UInt8} (h : RdAt w bl bx s) :
    w.cell? ⟨bx, 0, none⟩ = some (.func (.func 113) #[] #[.pointer (some ⟨bx, 0, none⟩), .pointer (some ⟨bl, 0, none⟩)]) ∧ w.cell? ⟨bx, 1, none⟩ = some (.func (.func 110) #[] #[.pointer (some ⟨bl, 0, none⟩)]) ∧
    w.cell? ⟨bx, 2, none⟩ = some (.func (.func 114) #[] #[.pointer (some ⟨bl, 0, none⟩)]) ∧ w.cell? ⟨bx, 3, none⟩ = some (.func (.func 116) #[] #[.pointer (some ⟨bx, 0, none⟩), .pointer (some ⟨bl, 0, none⟩)]) ∧
    w.cell? ⟨bx, 4, none⟩ = some (.func (.func 119) #[] #[.pointer (some ⟨bx, 0, none⟩)]) ∧ w.cell? ⟨bx, 5, none⟩ = some (.func (.func 112) #[] #[.pointer (some ⟨bl, 0, none⟩)]) ∧ bx < w.heap.size :=
  ⟨h.fs.cell 0, h.fs.cell 1, h.fs.cell 2, h.fs.cell 3, h.fs.cell 4, h.fs.cell 5, h.fs.lt⟩
/-- the panic of a wrong part -/
@[reducible] def badE : Ending := .panicked [{ v := .iface 119 (.agg #[]), recovered := false }]
/-- what reading a part comes to -/
def RdR {α : Type} (w : World) (bl bx : Nat) (o : Option (α × List UInt8)) (enc : α → Value) (e : Ending) (w' : World) : Prop :=
  (match o with | some p => e = .returned (enc p.1) ∧ RdAt w' bl bx p.2 | none => e = badE) ∧ KeptQ bl w w'
theorem RdR.cases {α : Type} {w : World} {bl bx : Nat} {o : Option (α × List UInt8)} {enc : α → Value} {e : Ending} {w' : World} (h : RdR w bl bx o enc e w') :
    (∃ a r, o = some (a, r) ∧ e = .returned (enc a) ∧ RdAt w' bl bx r ∧ KeptQ bl w w') ∨ (o = none ∧ e = badE ∧ KeptQ bl w w') := by
  unfold RdR at h
  cases o with
  | none => exact .inr ⟨rfl, h.1, h.2⟩
  | some p => exact .inl ⟨p.1, p.2, rfl, h.1.1, h.1.2, h.2⟩
theorem RdR.some {α : Type} {w : World} {bl bx : Nat} {o : Option (α × List UInt8)} {enc : α → Value} {e : Ending} {w' : World} {a : α} {r : List UInt8} (ho : o = some (a, r)) (he : e = .returned (enc a)) (hr : RdAt w' bl bx r) (hk : KeptQ bl w w') : RdR w bl bx o enc e w' := by
  rw [ho]; exact ⟨⟨he, hr⟩, hk⟩
theorem RdR.none {α : Type} {w : World} {bl bx : Nat} {o : Option (α × List UInt8)} {enc : α → Value} {e : Ending} {w' : World} (ho : o = Option.none) (he : e = badE) (hk : KeptQ bl w w') : RdR w bl bx o enc e w' := by
  rw [ho]; exact ⟨he, hk⟩
/-- the line is cut behind its first bytes -/
theorem RdAt.cut {w w' : World} {bl bx : Nat} {s r : List UInt8} (h : RdAt w bl bx s) (hb : KeptQ bl w w') (hr : r.length ≤ s.length) (hl : Blk w' bl 9 #[.string (S r)]) : RdAt w' bl bx r :=
  ⟨hl, hb.blk h.fs h.ne, h.ne, Nat.le_trans hr h.sz, by obtain ⟨W0, h1, h2, h3⟩ := h.env; exact ⟨W0, h1, h2, h3.trans (hb.low h2 h3.size)⟩⟩
end
section
open Go.RowKit

theorem fail_any (w : World) : Calls Tryz.prog 83 #[] w fun e w' => e = badE ∧ w' = w := by
  go_enter Tryz.func83, Tryz.ntmps83
  go_wp2_with fail
  exact ⟨rfl, rfl, rfl⟩
theorem starts_any (p s : List UInt8) (bl bx : Nat) (w : World) (h : RdAt w bl bx s) : Calls Tryz.prog 110 #[.string (S p), .pointer (some ⟨bl, 0, none⟩)] w fun e w' => e = .returned (.bool (p.isPrefixOf s)) ∧ w' = w := by
  obtain ⟨l0, ll, lf⟩ := h.cells
  clear h
  go_enter Tryz.func110, Tryz.ntmps110
  go_wp2_with fail
  refine (Tryz.strings_HasPrefix (S s) (S p) w).mono ?_
  rintro e w1 ⟨rfl, rfl⟩
  have HH := Lib.hid (show Lib.hasPrefix (S s).data.toList (S p).data.toList = p.isPrefixOf s by rw [S_list, S_list]; rfl)
  rw [HH.out]
  go_wp2_with fail
  go_ret
  exact ⟨rfl, rfl⟩
theorem empty_any (s : List UInt8) (bl bx : Nat) (w : World) (h : RdAt w bl bx s) : Calls Tryz.prog 112 #[.pointer (some ⟨bl, 0, none⟩)] w fun e w' => e = .returned (.bool s.isEmpty) ∧ w' = w := by
  obtain ⟨l0, ll, lf⟩ := h.cells
  clear h
  go_enter Tryz.func112, Tryz.ntmps112
  go_wp2_with fail
  go_ret
  exact ⟨ret_bool (by rw [ByteArray.toList_eq, S_list]), rfl⟩
theorem S_from (s : List UInt8) (n : Nat) : (S s).extract n s.length = S (s.drop n) := by
  apply ByteArray.ext
  rw [ByteArray.data_extract]
  apply Array.ext'
  simp [S]
  rw [List.take_of_length_le (by simp)]
theorem S_to (s : List UInt8) (n : Nat) : (S s).extract 0 n = S (s.take n) := by
  apply ByteArray.ext
  rw [ByteArray.data_extract]
  apply Array.ext'
  simp [S]
theorem literal_any (p s : List UInt8) (bl bx : Nat) (w : World) (h : RdAt w bl bx s) : Calls Tryz.prog 113 #[.string (S p), .pointer (some ⟨bx, 0, none⟩), .pointer (some ⟨bl, 0, none⟩)] w (RdR w bl bx ((litP p s).map fun r => ((), r)) fun _ => .tuple #[]) := by
  have H := Lib.hid h
  obtain ⟨f0, f1, f2, f3, f4, f5, fl⟩ := h.funs
  clear h
  go_enter Tryz.func113, Tryz.ntmps113
  go_wp2_with fail
  refine (starts_any p s bl bx w H.out).mono ?_
  rintro e w1 ⟨rfl, rfl⟩
  cases hp : p.isPrefixOf s
  · have HL := Lib.hid (show litP p s = none by unfold litP; rw [if_neg (by rw [hp]; simp)])
    clear hp
    go_wp2_with fail
    refine (fail_any w1).mono ?_
    rintro e w2 ⟨rfl, rfl⟩
    exact ⟨rfl, RdR.none (by rw [HL.out]; rfl) rfl (KeptQ.refl _ _)⟩
  · have HL := Lib.hid (show litP p s = some (s.drop p.length) by unfold litP; rw [if_pos hp])
    have hpl : p.length ≤ s.length := (List.isPrefixOf_iff_prefix.1 hp).length_le
    have hz1 : (S p).size = p.length := S_size p
    have hz2 : (S s).size = s.length := S_size s
    obtain ⟨l0, ll, lf⟩ := H.out.cells
    clear hp
    go_wp2_with fail
    go_end0
    rw [S_from]
    have hb := H.out.ln.set_ 0 (.string (S (s.drop p.length)))
    have hk := (KeptQ.refl bl w1).set (p := ⟨bl, 0, none⟩) (.inl rfl) (.string (S (s.drop p.length)))
    exact RdR.some (a := ()) (r := s.drop p.length) (by rw [HL.out]; rfl) rfl (H.out.cut hk (by simp) (by simpa using hb)) hk
theorem takeW_at (p : UInt8 → Bool) : ∀ (l : List UInt8) (i : Nat) (h : i < l.length), i ≤ (l.takeWhile p).length → p (l[i]'h) = decide (i < (l.takeWhile p).length)
  | [], i, h, _ => absurd h (by simp)
  | c :: t, 0, _, _ => by
    rw [List.getElem_cons_zero, List.takeWhile_cons]
    cases p c <;> simp
  | c :: t, i + 1, h, hle => by
    rw [List.getElem_cons_succ]
    rw [List.takeWhile_cons] at hle ⊢
    cases hp : p c with
    | false => rw [hp] at hle; simp at hle
    | true =>
      rw [hp] at hle
      simp only [if_true, List.length_cons] at hle ⊢
      rw [takeW_at p t i (by simpa using h) (by omega)]
      simp
theorem takeW_le (p : UInt8 → Bool) (l : List UInt8) : (l.takeWhile p).length ≤ l.length := (List.takeWhile_prefix p).length_le
theorem intN_le (s : List UInt8) : intN s ≤ s.length := by
  unfold intN
  split
  · simp
  · split
    · have := takeW_le digB (by assumption)
      simp only [List.length_cons]
      omega
    · exact takeW_le digB _
theorem intN_neg (t : List UInt8) : intN (45 :: t) = 1 + (t.takeWhile digB).length := rfl
theorem intN_pos {c : UInt8} (t : List UInt8) (h : c ≠ 45) : intN (c :: t) = ((c :: t).takeWhile digB).length := if_neg h
theorem intN_at (s : List UInt8) (j : Nat) (h : j < s.length) (hle : j ≤ intN s) : (digB (s[j]'h) || (j == 0 && s[j]'h == 45)) = decide (j < intN s) := by
  cases s with
  | nil => simp at h
  | cons c t =>
    by_cases hc : c = 45
    · subst hc
      rw [intN_neg] at hle ⊢
      cases j with
      | zero => simp; omega
      | succ i =>
        rw [List.getElem_cons_succ, takeW_at digB t i (by simpa using h) (by omega)]
        simp
        omega
    · rw [intN_pos t hc] at hle ⊢
      rw [takeW_at digB (c :: t) j h hle]
      cases j with
      | zero => simp [hc]
      | succ i => simp
theorem dig_int (c : UInt8) : digB c = (decide (48 ≤ (c.toNat : Int)) && decide ((c.toNat : Int) ≤ 57)) := by
  unfold digB
  congr 1 <;> rw [decide_eq_decide] <;> omega
theorem parseInt_any (t : List UInt8) (ht : t.length ≤ 1000000) (w : World) (h : Env w) : Calls Tryz.prog 115 #[.string (S t), .int .i64 10, .int .i64 64] w fun e w' =>
    ((∃ v, Lib.parseIntB 64 t = .ok v ∧ e = .returned (.tuple #[.int .i64 v, .nilIface])) ∨ ((∀ v, Lib.parseIntB 64 t ≠ .ok v) ∧ ∃ v p, e = .returned (.tuple #[.int .i64 v, .iface 168 p]))) ∧ Below w.heap.size w w' := by
  have hz : (S t).size = t.length := S_size t
  have hl : (S t).data.toList = t := S_list t
  cases hp : Lib.parseIntB 64 t
  case ok v =>
    refine (Tryz.strconv_ParseInt_10_at64_ok (S t) (by omega) v (by rw [hl]; exact hp) w).mono ?_
    rintro e w' ⟨rfl, hw⟩
    refine ⟨.inl ⟨v, rfl, rfl⟩, ?_⟩
    rcases hw with rfl | ⟨u, rfl⟩
    · exact Below.refl _ _
    · exact ⟨rfl, rfl, rfl, by rw [Lib.bytesWorld_size]; omega, fun j hj => Lib.bytesWorld_at_old w 5 u j hj⟩
  case range =>
    obtain ⟨tp, p, h1⟩ := h.rng
    refine (Tryz.strconv_ParseInt_10_at64_range_var (S t) (by omega) (by rw [hl]; exact hp) tp p w h1).mono ?_
    rintro e w' ⟨N, rfl, _, _, hb⟩
    exact ⟨.inr ⟨(by intro v e; cases e), _, _, rfl⟩, hb⟩
  · obtain ⟨tp, p, h1, _⟩ := h.syn
    refine (Tryz.strconv_ParseInt_10_at64_syntax_var (S t) (by omega) (by rw [hl]; exact hp) tp p w h1).mono ?_
    rintro e w' ⟨N, rfl, _, _, hb⟩
    exact ⟨.inr ⟨(by intro v e; cases e), _, _, rfl⟩, hb⟩
set_option maxHeartbeats 2000000 in
theorem integer_any (s : List UInt8) (bl bx : Nat) (w : World) (h : RdAt w bl bx s) : Calls Tryz.prog 114 #[.pointer (some ⟨bl, 0, none⟩)] w (RdR w bl bx (intP s) fun v => .int .i64 v) := by
  have H := Lib.hid h
  have hz2 : (S s).size = s.length := S_size s
  have hsz := h.sz
  obtain ⟨l0, ll, lf⟩ := h.cells
  clear h
  go_enter Tryz.func114, Tryz.ntmps114
  go_wp2_with fail
  go_loopw [2] (fun i wr => ∃ j : Nat, i = .int .i64 j ∧ j ≤ intN s ∧ wr = w) (fun i _ => intN s - (intOf i).toNat)
  case atStart => exact ⟨0, rfl, Nat.zero_le _, rfl⟩
  case round =>
    obtain ⟨j, rfl, hj, rfl⟩ := hrel
    have hile := intN_le s
    have hji : IntKind.wrap .i64 ((j : Int) + 1) = (j : Int) + 1 := wrapI (by omega)
    go_upto_region 2 with fail
    go_cut [30] from 5 to 30 (fun s30 wx => s30 = .bool (decide (j < intN s)) ∧ wr = wx)
    case first =>
      by_cases hlt : j < s.length
      · have hlj : decide ((j : Int) < (s.length : Int)) = true := by simp; omega
        have hI := intN_at s j hlt hj
        have hx : j < (S s).size := by omega
        have hsx : (S s)[j]'hx = s[j]'hlt := by unfold S; rfl
        have h45 : (((s[j]'hlt).toNat : Int) == 45) = (s[j]'hlt == 45) := u8_eq (s[j]'hlt) 45 (by omega)
        rw [dig_int, ← h45, ← hsx] at hI
        obtain ⟨n, hn⟩ : ∃ n : Int, (((S s)[j]'hx).toNat : Int) = n := ⟨_, rfl⟩
        rw [hn] at hI
        obtain ⟨b1, hb1⟩ : ∃ b, decide (48 ≤ n) = b := ⟨_, rfl⟩
        obtain ⟨b2, hb2⟩ : ∃ b, decide (n ≤ 57) = b := ⟨_, rfl⟩
        obtain ⟨b3, hb3⟩ : ∃ b, (n == 45) = b := ⟨_, rfl⟩
        obtain ⟨b4, hb4⟩ : ∃ b, (j == 0) = b := ⟨_, rfl⟩
        have hb4' : ((j : Int) == 0) = b4 := by rw [← hb4, Bool.eq_iff_iff]; simp
        rw [hb1, hb2, hb3, hb4] at hI
        have HI := Lib.hid hI
        clear hI hsx hj hile hb4
        cases b1 <;> cases b2 <;> cases b3 <;> cases b4 <;> (go_wp2_with fail) <;> go_meet <;> exact ⟨congrArg Value.bool HI.out, rfl⟩
      · have hlj : decide ((j : Int) < (s.length : Int)) = false := by simp; omega
        have HF := Lib.hid (show decide (j < intN s) = false by simp; omega)
        clear hj hile
        go_wp2_with fail
        go_meet
        exact ⟨congrArg Value.bool HF.out.symm, rfl⟩
    case rest =>
      obtain ⟨rfl, rfl⟩ := hcut
      by_cases hlt : j < intN s
      · have q1 : decide (j < intN s) = true := by simpa using hlt
        rw [q1]
        clear q1
        go_wp2_with fail
        exact ⟨⟨j + 1, by go_num, hlt, by trivial⟩, by simp [intOf]; omega⟩
      · have q1 : decide (j < intN s) = false := by simpa using hlt
        have hjn : j = intN s := by omega
        subst hjn
        rw [q1]
        clear q1 hlt hj hji
        obtain ⟨n, hn⟩ : ∃ n, Hid (n = intN s) := ⟨_, rfl⟩
        rw [← hn.out] at hile ⊢
        go_wp2_with fail
        rw [S_to]
        obtain ⟨t, ht⟩ : ∃ t, Hid (t = s.take n) := ⟨_, rfl⟩
        have htl : t.length ≤ 1000000 := by rw [ht.out, List.length_take]; omega
        have HIP := Lib.hid (show intP s = (decV t).map fun v => (v, s.drop n) by rw [ht.out, hn.out]; rfl)
        have htx : (S s).extract 0 n = S t := by rw [S_to, ht.out]
        rw [← ht.out]
        refine (parseInt_any t htl wr H.out.envw).mono ?_
        rintro e w1 ⟨hr, hb1⟩
        have H1 := Lib.hid (H.out.next hb1)
        have HB1 := Lib.hid hb1
        clear hb1 l0 ll lf
        rcases hr with ⟨v, hv, rfl⟩ | ⟨hv, v, p, rfl⟩
        · have HVR := Lib.hid (pib_range hv)
          have HDV := Lib.hid (decV_ok hv)
          clear hv
          go_upto_region 5 with fail
          obtain ⟨D, hD⟩ : ∃ X, Hid (X = w1.drew) := ⟨_, rfl⟩
          have hd : Below w1.heap.size w1 D := by rw [hD.out]; exact bDrewN (Below.refl _ _) 1
          refine wp_region_N (fun w' => Below w1.heap.size w1 w') (fun _ => true) (by kernel_rfl) ?_
          rw [← hD.out]
          clear hD
          have hS0 := hd
          refine wpAnyN_take (i := 0) (v := ?v1) rfl (by kernel_rfl) (by kernel_rfl) (by kernel_rfl) (by kernel_rfl) (fun _ _ _ h => h) (Or.inl ⟨by rfl, ?hy1⟩) (by assumption) ?_
          case hy1 => intro w hSw; (try dsimp only at hSw); go_simp; try with_reducible rfl
          simp only [Act.put, List.getElem_toArray, List.getElem_cons_zero, List.setIfInBounds_toArray, List.set_cons_zero, List.set_cons_succ]
          refine wpAnyN_take (i := 1) (v := ?v2) rfl (by kernel_rfl) (by kernel_rfl) (by kernel_rfl) (by kernel_rfl) (fun _ _ _ h => h) (Or.inl ⟨by rfl, ?hy2⟩) (by assumption) ?_
          case hy2 => intro w hSw; (try dsimp only at hSw); go_simp; try with_reducible rfl
          simp only [Act.put, List.getElem_toArray, List.getElem_cons_zero, List.getElem_cons_succ, List.setIfInBounds_toArray, List.set_cons_zero, List.set_cons_succ]
          refine wpAnyN_take (i := 2) (v := ?v3) rfl (by kernel_rfl) (by kernel_rfl) (by kernel_rfl) (by kernel_rfl) (fun _ _ _ h => h) (Or.inl ⟨by rfl, ?hy3⟩) (by assumption) ?_
          case hy3 => intro w hSw; (try dsimp only at hSw); go_simp; try with_reducible rfl
          simp only [Act.put, List.getElem_toArray, List.getElem_cons_zero, List.getElem_cons_succ, List.setIfInBounds_toArray, List.set_cons_zero, List.set_cons_succ]
          refine wpAnyN_take (i := 3) (v := ?v4) rfl (by kernel_rfl) (by kernel_rfl) (by kernel_rfl) (by kernel_rfl) (fun _ _ _ h => h) (Or.inl ⟨by rfl, ?hy4⟩) (by assumption) ?_
          case hy4 => intro w hSw; (try dsimp only at hSw); go_simp; try with_reducible rfl
          simp only [Act.put, List.getElem_toArray, List.getElem_cons_zero, List.getElem_cons_succ, List.setIfInBounds_toArray, List.set_cons_zero, List.set_cons_succ]
          refine wpAnyN_take (i := 5) (v := ?v5) rfl (by kernel_rfl) (by kernel_rfl) (by kernel_rfl) (by kernel_rfl) (fun _ _ _ h => h) (Or.inl ⟨by rfl, ?hy5⟩) (by assumption) ?_
          case hy5 => intro w hSw; obtain ⟨l0, ll, lf⟩ := (H1.out.next hSw).cells; go_simp; try with_reducible rfl
          simp only [Act.put, List.getElem_toArray, List.getElem_cons_zero, List.getElem_cons_succ, List.setIfInBounds_toArray, List.set_cons_zero, List.set_cons_succ]
          refine wpAnyN_take (i := 6) (v := ?v6) rfl (by kernel_rfl) (by kernel_rfl) (by kernel_rfl) (by kernel_rfl) (fun _ _ _ h => h) (Or.inl ⟨by rfl, ?hy6⟩) (by assumption) ?_
          case hy6 => intro w hSw; (try dsimp only at hSw); go_simp; try with_reducible rfl
          simp only [Act.put, List.getElem_toArray, List.getElem_cons_zero, List.getElem_cons_succ, List.setIfInBounds_toArray, List.set_cons_zero, List.set_cons_succ]
          refine wpAnyN_take (i := 7) (v := .string (S t)) rfl (by kernel_rfl) (by kernel_rfl) (by kernel_rfl) (by kernel_rfl) (fun _ _ _ h => h) (Or.inl ⟨by rfl, ?hv7⟩) (by assumption) ?_
          case hv7 => intro w hSw; go_simp
          (try simp only [Act.put, List.setIfInBounds_toArray])
          refine wpAnyN_one (i := 4) (by kernel_rfl) rfl (fun K hK => ?_)
          simp only [List.getElem_toArray, List.getElem_cons_zero, List.getElem_cons_succ]
          go_simp
          refine (fmt_any v D HVR.out (H1.out.next hd).envw).mono ?_
          rintro e w2 ⟨rfl, hb2⟩
          have hk2 : Below w1.heap.size w1 w2 := bNext hd hb2
          refine hK _ _ (fun _ => hk2) ?_
          (try simp only [Act.put, List.setIfInBounds_toArray, List.set_cons_zero, List.set_cons_succ])
          refine wpAnyN_take (i := 8) (v := ?v7) rfl (by kernel_rfl) (by kernel_rfl) (by kernel_rfl) (by kernel_rfl) (fun _ _ _ h => h) (Or.inl ⟨by rfl, ?hy7⟩) (by assumption) ?_
          case hy7 => intro w hSw; (try dsimp only at hSw); go_simp; try with_reducible rfl
          simp only [Act.put, List.getElem_toArray, List.getElem_cons_zero, List.getElem_cons_succ, List.setIfInBounds_toArray, List.set_cons_zero, List.set_cons_succ]
          refine wpAnyN_take (i := 9) (v := ?v8) rfl (by kernel_rfl) (by kernel_rfl) (by kernel_rfl) (by kernel_rfl) (fun _ _ _ h => h) (Or.inl ⟨by rfl, ?hy8⟩) (by assumption) ?_
          case hy8 => intro w hSw; (try dsimp only at hSw); go_simp; try with_reducible rfl
          simp only [Act.put, List.getElem_toArray, List.getElem_cons_zero, List.getElem_cons_succ, List.setIfInBounds_toArray, List.set_cons_zero, List.set_cons_succ]
          refine wpAnyN_done (by kernel_rfl) ?_ _
          have H2 := Lib.hid (H1.out.next hk2)
          have HB2 := Lib.hid (bNext HB1.out hk2)
          clear hb2 hk2 hS0 hd
          obtain ⟨z, hz⟩ : ∃ z, Hid (z = !((S (numL v)).toList == (S t).toList)) := ⟨_, rfl⟩
          rw [← hz.out]
          have hzz : z = !(numL v == t) := by rw [hz.out, ByteArray.toList_eq, ByteArray.toList_eq, S_list, S_list]
          cases z
          · have e : numL v = t := by simpa using hzz.symm
            have HI := Lib.hid (show intP s = some (v, s.drop n) by rw [HIP.out, HDV.out, if_pos e]; rfl)
            obtain ⟨l0, ll, lf⟩ := H2.out.cells
            have hb := H2.out.ln.set_ 0 (.string (S (s.drop n)))
            have hk := (KeptQ.of (q := bl) HB2.out).set (p := ⟨bl, 0, none⟩) (.inl rfl) (.string (S (s.drop n)))
            have HE := Lib.hid (show RdAt (w2.setCell ⟨bl, 0, none⟩ (.string (S (s.drop n)))) bl bx (s.drop n) from H2.out.cut ((KeptQ.refl bl w2).set (p := ⟨bl, 0, none⟩) (.inl rfl) _) (by simp) (by simpa using hb))
            have HK := Lib.hid hk
            have hfr := S_from s n
            clear hb hk e hzz hz
            go_wp2_with fail
            go_ret
            exact RdR.some HI.out rfl HE.out HK.out
          · have e : numL v ≠ t := by simpa using hzz.symm
            have HI := Lib.hid (show intP s = none by rw [HIP.out, HDV.out, if_neg e]; rfl)
            clear e hzz hz
            go_wp2_with fail
            refine (fail_any w2).mono ?_
            rintro e w3 ⟨rfl, rfl⟩
            exact ⟨rfl, RdR.none HI.out rfl (KeptQ.of HB2.out)⟩
        · have HDV := Lib.hid (show intP s = none by rw [HIP.out, decV_no hv]; rfl)
          clear hv
          go_upto_region 5 with fail
          obtain ⟨D, hD⟩ : ∃ X, Hid (X = w1.drew) := ⟨_, rfl⟩
          have hd : Below w1.heap.size w1 D := by rw [hD.out]; exact bDrewN (Below.refl _ _) 1
          refine wp_region_N (fun w' => Below w1.heap.size w1 w') (fun _ => true) (by kernel_rfl) ?_
          rw [← hD.out]
          clear hD
          have hS0 := hd
          refine wpAnyN_take (i := 0) (v := ?v9) rfl (by kernel_rfl) (by kernel_rfl) (by kernel_rfl) (by kernel_rfl) (fun _ _ _ h => h) (Or.inl ⟨by rfl, ?hy9⟩) (by assumption) ?_
          case hy9 => intro w hSw; (try dsimp only at hSw); go_simp; try with_reducible rfl
          simp only [Act.put, List.getElem_toArray, List.getElem_cons_zero, List.setIfInBounds_toArray, List.set_cons_zero, List.set_cons_succ]
          refine wpAnyN_take (i := 1) (v := ?v10) rfl (by kernel_rfl) (by kernel_rfl) (by kernel_rfl) (by kernel_rfl) (fun _ _ _ h => h) (Or.inl ⟨by rfl, ?hy10⟩) (by assumption) ?_
          case hy10 => intro w hSw; (try dsimp only at hSw); go_simp; try with_reducible rfl
          simp only [Act.put, List.getElem_toArray, List.getElem_cons_zero, List.getElem_cons_succ, List.setIfInBounds_toArray, List.set_cons_zero, List.set_cons_succ]
          refine wpAnyN_take (i := 2) (v := ?v11) rfl (by kernel_rfl) (by kernel_rfl) (by kernel_rfl) (by kernel_rfl) (fun _ _ _ h => h) (Or.inl ⟨by rfl, ?hy11⟩) (by assumption) ?_
          case hy11 => intro w hSw; (try dsimp only at hSw); go_simp; try with_reducible rfl
          simp only [Act.put, List.getElem_toArray, List.getElem_cons_zero, List.getElem_cons_succ, List.setIfInBounds_toArray, List.set_cons_zero, List.set_cons_succ]
          refine wpAnyN_take (i := 3) (v := undef) rfl (by kernel_rfl) (by kernel_rfl) (by kernel_rfl) (by kernel_rfl) (fun _ _ _ h => h) (Or.inr ⟨by rfl, rfl⟩) (by assumption) ?_
          simp only [Act.put, List.getElem_toArray, List.getElem_cons_zero, List.getElem_cons_succ, List.setIfInBounds_toArray, List.set_cons_zero, List.set_cons_succ]
          refine wpAnyN_take (i := 4) (v := undef) rfl (by kernel_rfl) (by kernel_rfl) (by kernel_rfl) (by kernel_rfl) (fun _ _ _ h => h) (Or.inr ⟨by rfl, rfl⟩) (by assumption) ?_
          simp only [Act.put, List.getElem_toArray, List.getElem_cons_zero, List.getElem_cons_succ, List.setIfInBounds_toArray, List.set_cons_zero, List.set_cons_succ]
          refine wpAnyN_take (i := 5) (v := undef) rfl (by kernel_rfl) (by kernel_rfl) (by kernel_rfl) (by kernel_rfl) (fun _ _ _ h => h) (Or.inr ⟨by rfl, rfl⟩) (by assumption) ?_
          simp only [Act.put, List.getElem_toArray, List.getElem_cons_zero, List.getElem_cons_succ, List.setIfInBounds_toArray, List.set_cons_zero, List.set_cons_succ]
          refine wpAnyN_take (i := 6) (v := undef) rfl (by kernel_rfl) (by kernel_rfl) (by kernel_rfl) (by kernel_rfl) (fun _ _ _ h => h) (Or.inr ⟨by rfl, rfl⟩) (by assumption) ?_
          simp only [Act.put, List.getElem_toArray, List.getElem_cons_zero, List.getElem_cons_succ, List.setIfInBounds_toArray, List.set_cons_zero, List.set_cons_succ]
          refine wpAnyN_take (i := 7) (v := undef) rfl (by kernel_rfl) (by kernel_rfl) (by kernel_rfl) (by kernel_rfl) (fun _ _ _ h => h) (Or.inr ⟨by rfl, rfl⟩) (by assumption) ?_
          simp only [Act.put, List.getElem_toArray, List.getElem_cons_zero, List.getElem_cons_succ, List.setIfInBounds_toArray, List.set_cons_zero, List.set_cons_succ]
          refine wpAnyN_take (i := 8) (v := undef) rfl (by kernel_rfl) (by kernel_rfl) (by kernel_rfl) (by kernel_rfl) (fun _ _ _ h => h) (Or.inr ⟨by rfl, rfl⟩) (by assumption) ?_
          simp only [Act.put, List.getElem_toArray, List.getElem_cons_zero, List.getElem_cons_succ, List.setIfInBounds_toArray, List.set_cons_zero, List.set_cons_succ]
          refine wpAnyN_take (i := 9) (v := ?v12) rfl (by kernel_rfl) (by kernel_rfl) (by kernel_rfl) (by kernel_rfl) (fun _ _ _ h => h) (Or.inl ⟨by rfl, ?hy12⟩) (by assumption) ?_
          case hy12 => intro w hSw; (try dsimp only at hSw); go_simp; try with_reducible rfl
          simp only [Act.put, List.getElem_toArray, List.getElem_cons_zero, List.getElem_cons_succ, List.setIfInBounds_toArray, List.set_cons_zero, List.set_cons_succ]
          refine wpAnyN_done (by kernel_rfl) ?_ _
          have HKQ := Lib.hid (show KeptQ bl wr D from KeptQ.of (bNext HB1.out hd))
          clear hS0 hd
          go_wp2_with fail
          refine (fail_any D).mono ?_
          rintro e w2 ⟨rfl, rfl⟩
          exact ⟨rfl, RdR.none HDV.out rfl HKQ.out⟩
end
end Go.Proofs.YtbipeakinmbdiaaGreatDoor
