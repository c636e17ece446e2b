/-
  Plain: the listing of a block, and the parts of a line as they are read. Plain: what is listed is read again, and what is read is what would be listed: integers, names, registers, predicates, keys. Plain: a line, and the head of a block, is read as what it lists, and what is read is what would be listed.
-/
import Derived.Test.YtbipeakinmbdiaaGreatDoorKg
import Derived.Lib.ItoaLen
namespace Go.Proofs.YtbipeakinmbdiaaGreatDoor
section
open Go.RowKit

/-- a string of bytes -/
def S (l : List UInt8) : ByteArray := ⟨l.toArray⟩
theorem S_list (l : List UInt8) : (S l).data.toList = l := by simp [S]
theorem S_eta (s : ByteArray) : S s.data.toList = s := by obtain ⟨⟨l⟩⟩ := s; rfl
theorem S_app (a b : List UInt8) : S a ++ S b = S (a ++ b) := by
  apply ByteArray.ext
  simp [S]
theorem S_size (l : List UInt8) : (S l).size = l.length := by simp [S, ByteArray.size]
theorem S_inj {a b : List UInt8} (h : S a = S b) : a = b := by rw [← S_list a, h, S_list]
/-- does a byte of a name stand for itself? -/
def plainB (c : UInt8) : Bool := (decide (32 ≤ c.toNat) && decide (c.toNat ≤ 126)) && (c != 34 && c != 92)
def hexD (n : Nat) : UInt8 := UInt8.ofNat (if n < 10 then 48 + n else 87 + n)
def escB (c : UInt8) : List UInt8 := if plainB c then [c] else [92, 120, hexD (c.toNat / 16), hexD (c.toNat % 16)]
def quoteL (l : List UInt8) : List UInt8 := 34 :: (l.flatMap escB ++ [34])
def numL (n : Int) : List UInt8 := Lib.itoa n
def funL (s : List UInt8) (a : Int) : List UInt8 := quoteL s ++ 47 :: numL a
def predL (s : List UInt8) (a n : Int) : List UInt8 := if n = 0 then funL s a else 35 :: (numL n ++ 47 :: numL a)
def keyL (k n : Int) (s : List UInt8) (a : Int) : List UInt8 := if k = 1 then numL n else if k = 2 then quoteL s else if k = 3 then funL s a else [95]
def regL (r : Int) : List UInt8 := if r < 0 then 89 :: numL (-r) else 88 :: numL r
def fieldL (x : In) (c : UInt8) : List UInt8 :=
  if c = 114 then regL x.r else if c = 97 then regL x.a else if c = 115 then quoteL x.nm.data.toList else if c = 102 then funL x.nm.data.toList x.ar
  else if c = 112 then predL x.nm.data.toList x.ar x.n else numL x.n
def nameL (op : Int) : List UInt8 := (sh op).1.data.toList
/-- the line of an instruction -/
def lineL (x : In) : List UInt8 := nameL x.op ++ (flds x.op).flatMap fun c => 32 :: fieldL x c
def blockW : List UInt8 := [98, 108, 111, 99, 107, 32]
/-- the first line of a block -/
def headL (b : Bk) : List UInt8 := blockW ++ (numL b.id ++ 32 :: (predL b.pn.data.toList b.par b.paux ++ 32 :: keyL b.kk b.kn b.knm.data.toList b.kar))
/-- the listing of a block -/
def textL (b : Bk) : List UInt8 := headL b ++ 10 :: b.code.flatMap fun x => lineL x ++ [10]
/-- what Text returns -/
def textV (b : Bk) : List UInt8 × Int := if vaP b then (if 16384 < (textL b).length then ([], 2) else (textL b, 0)) else ([], 1)

/-! what is read -/
def litP (s l : List UInt8) : Option (List UInt8) := if s.isPrefixOf l then some (l.drop s.length) else none
def digB (c : UInt8) : Bool := decide (48 ≤ c.toNat) && decide (c.toNat ≤ 57)
/-- how many bytes an integer takes -/
def intN (l : List UInt8) : Nat := match l with
  | [] => 0
  | c :: t => if c = 45 then 1 + (t.takeWhile digB).length else (l.takeWhile digB).length
/-- the integer that a text denotes in decimal, in the one form that is allowed -/
def decV (t : List UInt8) : Option Int :=
  match t with
  | [] => none
  | c :: u => let v : Int := if c = 45 then -(u.foldl (fun (a : Int) d => 10 * a + (d.toNat - 48)) 0) else t.foldl (fun (a : Int) d => 10 * a + (d.toNat - 48)) 0
    if (-9223372036854775808 ≤ v ∧ v ≤ 9223372036854775807) ∧ numL v = t then some v else none
def intP (l : List UInt8) : Option (Int × List UInt8) := (decV (l.take (intN l))).map fun v => (v, l.drop (intN l))
def hexV (c : UInt8) : Option Nat := if 48 ≤ c.toNat ∧ c.toNat ≤ 57 then some (c.toNat - 48) else if 97 ≤ c.toNat ∧ c.toNat ≤ 102 then some (c.toNat - 87) else none
def hex2 (a b : UInt8) : Option UInt8 := (hexV a).bind fun x => (hexV b).map fun y => UInt8.ofNat (16 * x + y)
/-- the rest of a name behind its first quotes -/
def bodyP : List UInt8 → Option (List UInt8 × List UInt8)
  | [] => none
  | c :: t => if c = 34 then some ([], t) else if plainB c then (bodyP t).map fun p => (c :: p.1, p.2)
    else match c, t with
    | 92, 120 :: a :: b :: u => (hex2 a b).bind fun v => if plainB v then none else (bodyP u).map fun p => (v :: p.1, p.2)
    | _, _ => none
def nameP (l : List UInt8) : Option (List UInt8 × List UInt8) := (litP [34] l).bind bodyP
def regP (l : List UInt8) : Option (Int × List UInt8) :=
  if [89].isPrefixOf l then ((litP [89] l).bind intP).bind fun p => if p.1 < 1 ∨ 4096 < p.1 then none else some (-p.1, p.2)
  else ((litP [88] l).bind intP).bind fun p => if p.1 < 1 ∨ 4096 < p.1 then none else some (p.1, p.2)
def smallP (l : List UInt8) : Option (Int × List UInt8) := (intP l).bind fun p => if p.1 < 0 ∨ 4096 < p.1 then none else some p
/-- a predicate: name, arity, number -/
def predP (l : List UInt8) : Option ((List UInt8 × Int × Int) × List UInt8) :=
  if [35].isPrefixOf l then ((litP [35] l).bind intP).bind fun p => if p.1 = 0 then none else (litP [47] p.2).bind fun u => (smallP u).map fun q => (([], q.1, p.1), q.2)
  else (nameP l).bind fun p => (litP [47] p.2).bind fun u => (smallP u).map fun q => ((p.1, q.1, 0), q.2)
/-- a key: kind, integer, name, arity -/
def keyR (l : List UInt8) : Option ((Int × Int × List UInt8 × Int) × List UInt8) :=
  if [95].isPrefixOf l then (litP [95] l).map fun u => ((0, 0, [], 0), u)
  else if [34].isPrefixOf l then (nameP l).bind fun p => if [47].isPrefixOf p.2 then ((litP [47] p.2).bind smallP).map fun q => ((3, 0, p.1, q.1), q.2) else some ((2, 0, p.1, 0), p.2)
  else (intP l).map fun p => ((1, p.1, [], 0), p.2)
/-- one field of an instruction -/
def fieldP (x : In) (c : UInt8) (l : List UInt8) : Option (In × List UInt8) :=
  (litP [32] l).bind fun l => if c = 114 then (regP l).map fun p => ({ x with r := p.1 }, p.2) else if c = 97 then (regP l).map fun p => ({ x with a := p.1 }, p.2)
    else if c = 115 then (nameP l).map fun p => ({ x with nm := S p.1 }, p.2)
    else if c = 102 then (nameP l).bind fun p => (litP [47] p.2).bind fun u => (smallP u).map fun q => ({ x with nm := S p.1, ar := q.1 }, q.2)
    else if c = 112 then (predP l).map fun p => ({ x with nm := S p.1.1, ar := p.1.2.1, n := p.1.2.2 }, p.2)
    else (intP l).map fun p => ({ x with n := p.1 }, p.2)
def fieldsP : List UInt8 → In → List UInt8 → Option (In × List UInt8)
  | [], x, l => some (x, l)
  | c :: cs, x, l => (fieldP x c l).bind fun p => fieldsP cs p.1 p.2
/-- the opcode of a name, 0: none -/
def opOf (s : List UInt8) : Int := ((List.range 26).map fun k : Nat => (k : Int)).find? (fun k => nameL k == s) |>.getD 0
/-- a line of an instruction -/
def lineP (l : List UInt8) : Option In :=
  let s := l.takeWhile (· != 32)
  let op := opOf s
  if op = 0 then none else (fieldsP (flds op) ⟨op, 0, 0, 0, ⟨#[]⟩, 0⟩ (l.drop s.length)).bind fun p => if fo p.1 && p.2.isEmpty then some p.1 else none
/-- the first line -/
def headP (l : List UInt8) : Option Bk :=
  (litP blockW l).bind fun l => (intP l).bind fun p => (litP [32] p.2).bind fun u => (predP u).bind fun q => (litP [32] q.2).bind fun u => (keyR u).bind fun r =>
    let b : Bk := ⟨p.1, S q.1.1, q.1.2.1, q.1.2.2, r.1.1, r.1.2.1, S r.1.2.2.1, r.1.2.2.2, []⟩
    if hdP b && r.2.isEmpty then some b else none
end
section
open Go.RowKit

theorem dec_last {u : Nat} (h : u < 10) : Lib.decDigits u = [UInt8.ofNat (48 + u)] := by
  rw [Lib.decDigits, dif_pos h]
theorem dec_more {u : Nat} (h : ¬ u < 10) : Lib.decDigits u = Lib.decDigits (u / 10) ++ [UInt8.ofNat (48 + u % 10)] := by
  rw [Lib.decDigits, dif_neg h]
theorem dig_one {d : Nat} (h : d < 10) : (UInt8.ofNat (48 + d)).toNat = 48 + d := by
  rw [UInt8.toNat_ofNat']; omega
theorem dig_all (u : Nat) : ∀ c ∈ Lib.decDigits u, digB c = true := by
  induction u using Nat.strongRecOn with
  | _ u ih =>
    intro c hc
    by_cases h : u < 10
    · rw [dec_last h, List.mem_singleton] at hc
      subst hc
      unfold digB
      rw [dig_one h]
      simp; omega
    · rw [dec_more h, List.mem_append, List.mem_singleton] at hc
      rcases hc with hc | rfl
      · exact ih (u / 10) (by omega) c hc
      · unfold digB
        rw [dig_one (by omega)]
        simp; omega
def valD (t : List UInt8) : Int := t.foldl (fun (a : Int) d => 10 * a + (d.toNat - 48)) 0
theorem dig_val (u : Nat) : valD (Lib.decDigits u) = u := by
  induction u using Nat.strongRecOn with
  | _ u ih =>
    by_cases h : u < 10
    · rw [dec_last h]
      unfold valD
      simp only [List.foldl_cons, List.foldl_nil]
      rw [dig_one h]
      omega
    · rw [dec_more h]
      have e := ih (u / 10) (by omega)
      unfold valD at e ⊢
      rw [List.foldl_append, e]
      simp only [List.foldl_cons, List.foldl_nil]
      rw [dig_one (by omega)]
      omega
theorem dig_ne (u : Nat) : Lib.decDigits u ≠ [] := by
  by_cases h : u < 10
  · rw [dec_last h]; simp
  · rw [dec_more h]; simp
theorem num_neg {n : Int} (h : n < 0) : numL n = 45 :: Lib.decDigits n.natAbs := by unfold numL Lib.itoa; rw [if_pos h]
theorem num_pos {n : Int} (h : ¬ n < 0) : numL n = Lib.decDigits n.natAbs := by
  unfold numL Lib.itoa; rw [if_neg h, show n.toNat = n.natAbs by omega]
def inR (n : Int) : Prop := -9223372036854775808 ≤ n ∧ n ≤ 9223372036854775807
theorem dig_no45 {c : UInt8} (h : digB c = true) : c ≠ 45 := by rintro rfl; cases h
theorem dig_cases (u : Nat) : ∃ c t, Lib.decDigits u = c :: t ∧ digB c = true := by
  cases h : Lib.decDigits u with
  | nil => exact absurd h (dig_ne u)
  | cons c t => exact ⟨c, t, rfl, dig_all u c (by rw [h]; simp)⟩
theorem num_cases (n : Int) : ∃ c t, numL n = c :: t ∧ (c = 45 ∨ digB c = true) := by
  by_cases h : n < 0
  · rw [num_neg h]; exact ⟨_, _, rfl, .inl rfl⟩
  · rw [num_pos h]
    obtain ⟨c, t, e, hc⟩ := dig_cases n.natAbs
    exact ⟨c, t, e, .inr hc⟩
theorem num_all (n : Int) : ∀ c ∈ numL n, c = 45 ∨ digB c = true := by
  intro c hc
  by_cases h : n < 0
  · rw [num_neg h, List.mem_cons] at hc
    rcases hc with h | h
    · exact .inl h
    · exact .inr (dig_all _ _ h)
  · rw [num_pos h] at hc
    exact .inr (dig_all _ _ hc)
theorem decV_num {n : Int} (h : inR n) : decV (numL n) = some n := by
  by_cases hn : n < 0
  · have e : numL n = 45 :: Lib.decDigits n.natAbs := num_neg hn
    have ev := dig_val n.natAbs
    unfold valD at ev
    rw [e]
    unfold decV
    simp only [if_pos]
    rw [ev, show -((n.natAbs : Nat) : Int) = n by omega, if_pos ⟨h, e⟩]
  · have e : numL n = Lib.decDigits n.natAbs := num_pos hn
    have ev := dig_val n.natAbs
    obtain ⟨c, t, ec, hc⟩ := dig_cases n.natAbs
    unfold valD at ev
    rw [ec] at ev
    rw [e, ec]
    unfold decV
    simp only
    rw [if_neg (dig_no45 hc), ev, show ((n.natAbs : Nat) : Int) = n by omega, if_pos ⟨h, by rw [e, ec]⟩]
theorem decV_some {t : List UInt8} {n : Int} (h : decV t = some n) : inR n ∧ numL n = t := by
  unfold decV at h
  split at h
  · cases h
  · dsimp only at h
    rcases ite_some h with ⟨hh, h⟩ | ⟨_, h⟩
    · injection h with h
      rw [← h]
      exact hh
    · cases h
def ndig (r : List UInt8) : Bool := match r with | [] => true | c :: _ => !digB c
theorem take_dig {l r : List UInt8} (hl : ∀ c ∈ l, digB c = true) (hr : ndig r = true) : (l ++ r).takeWhile digB = l := by
  induction l with
  | nil =>
    cases r with
    | nil => rfl
    | cons c t => simp only [ndig, Bool.not_eq_true'] at hr; simp [hr]
  | cons c t ih => rw [List.cons_append, List.takeWhile_cons, hl c (by simp), if_pos rfl, ih (fun d hd => hl d (by simp [hd]))]
theorem intN_num {n : Int} {r : List UInt8} (hr : ndig r = true) : intN (numL n ++ r) = (numL n).length := by
  by_cases h : n < 0
  · rw [num_neg h, List.cons_append]
    unfold intN
    simp only [if_pos]
    rw [take_dig (dig_all _) hr]
    simp [Nat.add_comm]
  · rw [num_pos h]
    obtain ⟨c, t, ec, hc⟩ := dig_cases n.natAbs
    have ht := take_dig (r := r) (dig_all n.natAbs) hr
    rw [ec] at ht ⊢
    rw [List.cons_append] at ht ⊢
    unfold intN
    simp only
    rw [if_neg (dig_no45 hc), ht]
theorem intP_num {n : Int} {r : List UInt8} (h : inR n) (hr : ndig r = true) : intP (numL n ++ r) = some (n, r) := by
  unfold intP
  rw [intN_num hr, List.take_left', List.drop_left', decV_num h]
  · rfl
  · rfl
  · rfl
theorem intP_some {n : Int} {l r : List UInt8} (h : intP l = some (n, r)) : l = numL n ++ r ∧ inR n := by
  unfold intP at h
  cases hd : decV (l.take (intN l)) with
  | none => rw [hd] at h; cases h
  | some v =>
    rw [hd] at h
    simp only [Option.map_some, Option.some.injEq, Prod.mk.injEq] at h
    obtain ⟨rfl, rfl⟩ := h
    have := decV_some hd
    exact ⟨by rw [this.2, List.take_append_drop], this.1⟩
theorem litP_app (s r : List UInt8) : litP s (s ++ r) = some r := by
  unfold litP
  rw [if_pos (by rw [List.isPrefixOf_iff_prefix]; exact List.prefix_append _ _)]
  simp
theorem litP_some {s l r : List UInt8} (h : litP s l = some r) : l = s ++ r := by
  unfold litP at h
  split at h
  · rename_i hp
    injection h with h
    rw [List.isPrefixOf_iff_prefix] at hp
    obtain ⟨t, rfl⟩ := hp
    rw [← h]
    simp
  · cases h
theorem pre_cons (c d : UInt8) (t : List UInt8) : [c].isPrefixOf (d :: t) = (c == d) := by
  simp [List.isPrefixOf]
theorem pre_nil (c : UInt8) : [c].isPrefixOf [] = false := rfl
theorem hexV_D {n : Nat} (h : n < 16) : hexV (hexD n) = some n := by
  have : ∀ k : Fin 16, hexV (hexD k.1) = some k.1 := by decide
  exact this ⟨n, h⟩
theorem hexV_some {c : UInt8} {n : Nat} (h : hexV c = some n) : n < 16 ∧ c = hexD n := by
  have key : ∀ k : Fin 256, ∀ m ∈ hexV (UInt8.ofNat k.1), m < 16 ∧ UInt8.ofNat k.1 = hexD m := by decide +kernel
  have h1 := key ⟨c.toNat, c.toNat_lt⟩ n
  simp only [UInt8.ofNat_toNat] at h1
  exact h1 h
theorem hex2_D (c : UInt8) : hex2 (hexD (c.toNat / 16)) (hexD (c.toNat % 16)) = some c := by
  have hc := c.toNat_lt
  unfold hex2
  rw [hexV_D (by omega), hexV_D (by omega)]
  simp only [Option.bind_some, Option.map_some]
  rw [show 16 * (c.toNat / 16) + c.toNat % 16 = c.toNat by omega, UInt8.ofNat_toNat]
theorem hex2_some {a b v : UInt8} (h : hex2 a b = some v) : a = hexD (v.toNat / 16) ∧ b = hexD (v.toNat % 16) := by
  unfold hex2 at h
  cases ha : hexV a with
  | none => rw [ha] at h; cases h
  | some x =>
    cases hb : hexV b with
    | none => rw [ha, hb] at h; cases h
    | some y =>
      rw [ha, hb] at h
      simp only [Option.bind_some, Option.map_some, Option.some.injEq] at h
      obtain ⟨hx, rfl⟩ := hexV_some ha
      obtain ⟨hy, rfl⟩ := hexV_some hb
      subst h
      rw [UInt8.toNat_ofNat', show (16 * x + y) % 2 ^ 8 = 16 * x + y by omega, show (16 * x + y) / 16 = x by omega, show (16 * x + y) % 16 = y by omega]
      exact ⟨rfl, rfl⟩
theorem plain34 : plainB 34 = false := rfl
theorem plain92 : plainB 92 = false := rfl
theorem body_end (t : List UInt8) : bodyP (34 :: t) = some ([], t) := rfl
theorem body_plain {c : UInt8} (h : plainB c = true) (t : List UInt8) : bodyP (c :: t) = (bodyP t).map fun p => (c :: p.1, p.2) := by
  conv => lhs; unfold bodyP
  rw [if_neg (by rintro rfl; rw [plain34] at h; cases h), if_pos h]
theorem body_esc (a b : UInt8) (u : List UInt8) : bodyP (92 :: 120 :: a :: b :: u) = (hex2 a b).bind fun v => if plainB v then none else (bodyP u).map fun p => (v :: p.1, p.2) := rfl
theorem body_list (s r : List UInt8) : bodyP (s.flatMap escB ++ 34 :: r) = some (s, r) := by
  induction s with
  | nil => exact body_end r
  | cons c t ih =>
    rw [List.flatMap_cons]
    cases hc : plainB c with
    | true =>
      unfold escB
      rw [if_pos hc, List.singleton_append, List.cons_append, body_plain hc]
      show Option.map _ (bodyP (t.flatMap escB ++ 34 :: r)) = _
      rw [ih]
      rfl
    | false =>
      have e : escB c = [92, 120, hexD (c.toNat / 16), hexD (c.toNat % 16)] := by unfold escB; rw [if_neg (by rw [hc]; simp)]
      rw [e]
      simp only [List.cons_append, List.nil_append]
      rw [body_esc, hex2_D, Option.bind_some, if_neg (by rw [hc]; simp), ih]
      rfl
theorem body_some : ∀ (n : Nat) (l s r : List UInt8), l.length ≤ n → bodyP l = some (s, r) → l = s.flatMap escB ++ 34 :: r := by
  intro n
  induction n with
  | zero => intro l s r hl h; cases l with
    | nil => cases h
    | cons c t => simp at hl
  | succ n ih =>
    intro l s r hl h
    cases l with
    | nil => cases h
    | cons c t =>
      by_cases h34 : c = 34
      · subst h34
        rw [body_end] at h
        injection h with h
        injection h with h1 h2
        subst h1 h2
        rfl
      · cases hc : plainB c with
        | true =>
          rw [body_plain hc] at h
          cases hb : bodyP t with
          | none => rw [hb] at h; cases h
          | some p =>
            rw [hb] at h
            injection h with h
            injection h with h1 h2
            subst h1 h2
            have := ih t p.1 p.2 (by simpa using hl) hb
            rw [List.flatMap_cons]
            unfold escB
            rw [if_pos hc]
            show c :: t = c :: (List.flatMap escB p.1 ++ 34 :: p.2)
            rw [← this]
        | false =>
          unfold bodyP at h
          rw [if_neg h34, if_neg (by rw [hc]; simp)] at h
          split at h
          · rename_i a b u
            cases hx : hex2 a b with
            | none => rw [hx] at h; cases h
            | some v =>
              rw [hx, Option.bind_some] at h
              split at h
              · cases h
              · rename_i hv
                cases hb : bodyP u with
                | none => rw [hb] at h; cases h
                | some p =>
                  rw [hb] at h
                  injection h with h
                  injection h with h1 h2
                  subst h1 h2
                  have := ih u p.1 p.2 (by simp at hl; omega) hb
                  obtain ⟨ha, hb'⟩ := hex2_some hx
                  rw [List.flatMap_cons]
                  unfold escB
                  rw [if_neg hv, ← ha, ← hb']
                  show 92 :: 120 :: a :: b :: u = 92 :: 120 :: a :: b :: (List.flatMap escB p.1 ++ 34 :: p.2)
                  rw [← this]
          · cases h
theorem nameP_quote (s r : List UInt8) : nameP (quoteL s ++ r) = some (s, r) := by
  unfold nameP quoteL
  show (litP [34] ([34] ++ ((s.flatMap escB ++ [34]) ++ r))).bind bodyP = _
  rw [litP_app, Option.bind_some, List.append_assoc]
  exact body_list s r
theorem nameP_some {l s r : List UInt8} (h : nameP l = some (s, r)) : l = quoteL s ++ r := by
  unfold nameP at h
  cases hl : litP [34] l with
  | none => rw [hl] at h; cases h
  | some u =>
    rw [hl, Option.bind_some] at h
    rw [litP_some hl, body_some _ _ _ _ (Nat.le_refl _) h]
    unfold quoteL
    simp
theorem smallP_num {n : Int} {r : List UInt8} (h : 0 ≤ n ∧ n ≤ 4096) (hr : ndig r = true) : smallP (numL n ++ r) = some (n, r) := by
  unfold smallP
  rw [intP_num (by unfold inR; omega) hr, Option.bind_some, if_neg (by simp only; omega)]
theorem smallP_some {n : Int} {l r : List UInt8} (h : smallP l = some (n, r)) : l = numL n ++ r ∧ 0 ≤ n ∧ n ≤ 4096 := by
  unfold smallP at h
  cases hi : intP l with
  | none => rw [hi] at h; cases h
  | some p =>
    rw [hi, Option.bind_some] at h
    split at h
    · cases h
    · injection h with h
      subst h
      exact ⟨(intP_some hi).1, by omega⟩
theorem regP_reg {n : Int} {r : List UInt8} (h : n ≠ 0 ∧ -4096 ≤ n ∧ n ≤ 4096) (hr : ndig r = true) : regP (regL n ++ r) = some (n, r) := by
  unfold regP regL
  by_cases hn : n < 0
  · rw [if_pos hn, List.cons_append, pre_cons]
    have e := litP_app [89] (numL (-n) ++ r)
    simp only [List.singleton_append] at e
    rw [if_pos (by decide), e, Option.bind_some, intP_num (by unfold inR; omega) hr, Option.bind_some, if_neg (by simp only; omega)]
    simp
  · rw [if_neg hn, List.cons_append, pre_cons]
    have e := litP_app [88] (numL n ++ r)
    simp only [List.singleton_append] at e
    rw [if_neg (by decide), e, Option.bind_some, intP_num (by unfold inR; omega) hr, Option.bind_some, if_neg (by simp only; omega)]
theorem regP_some {n : Int} {l r : List UInt8} (h : regP l = some (n, r)) : l = regL n ++ r ∧ n ≠ 0 ∧ -4096 ≤ n ∧ n ≤ 4096 := by
  unfold regP at h
  split at h
  · cases hl : litP [89] l with
    | none => rw [hl] at h; cases h
    | some u =>
      rw [hl, Option.bind_some] at h
      cases hi : intP u with
      | none => rw [hi] at h; cases h
      | some p =>
        rw [hi, Option.bind_some] at h
        split at h
        · cases h
        · injection h with h
          injection h with h1 h2
          subst h1 h2
          refine ⟨?_, by omega⟩
          unfold regL
          rw [if_pos (by omega), litP_some hl, (intP_some hi).1]
          simp
  · cases hl : litP [88] l with
    | none => rw [hl] at h; cases h
    | some u =>
      rw [hl, Option.bind_some] at h
      cases hi : intP u with
      | none => rw [hi] at h; cases h
      | some p =>
        rw [hi, Option.bind_some] at h
        split at h
        · cases h
        · injection h with h
          injection h with h1 h2
          subst h1 h2
          refine ⟨?_, by omega⟩
          unfold regL
          rw [if_neg (by omega), litP_some hl, (intP_some hi).1]
          simp
theorem nil_data {s : ByteArray} (h : s.toList = []) : s.data.toList = [] := by rw [← ByteArray.toList_eq]; exact h
theorem quote_head (s r : List UInt8) : quoteL s ++ r = 34 :: (s.flatMap escB ++ 34 :: r) := by unfold quoteL; simp
theorem predP_pred {s : ByteArray} {a n : Int} {r : List UInt8} (h : pdOk s a n = true) (hr : ndig r = true) : predP (predL s.data.toList a n ++ r) = some ((s.data.toList, a, n), r) := by
  unfold pdOk at h
  unfold predP predL
  by_cases hn : n = 0
  · rw [if_pos hn] at h
    simp at h
    rw [if_pos hn]
    unfold funL
    rw [List.append_assoc, List.cons_append, quote_head, pre_cons, if_neg (by decide), ← quote_head, nameP_quote, Option.bind_some]
    have e := litP_app [47] (numL a ++ r)
    simp only [List.singleton_append] at e
    rw [e, Option.bind_some, smallP_num (by omega) hr, hn]
    rfl
  · rw [if_neg hn] at h
    simp at h
    rw [if_neg hn, List.cons_append, pre_cons, if_pos (by decide), List.append_assoc, List.cons_append]
    have e := litP_app [35] (numL n ++ 47 :: (numL a ++ r))
    simp only [List.singleton_append] at e
    rw [e, Option.bind_some, intP_num (by unfold inR; omega) rfl, Option.bind_some, if_neg hn]
    have e := litP_app [47] (numL a ++ r)
    simp only [List.singleton_append] at e
    rw [e, Option.bind_some, smallP_num (by omega) hr]
    have es : s.data.toList = [] := nil_data h.1
    rw [es]
    rfl
theorem predP_some {l s r : List UInt8} {a n : Int} (h : predP l = some ((s, a, n), r)) : l = predL s a n ++ r ∧ inR n := by
  unfold predP at h
  split at h
  · cases hl : litP [35] l with
    | none => rw [hl] at h; cases h
    | some u =>
      rw [hl, Option.bind_some] at h
      cases hi : intP u with
      | none => rw [hi] at h; cases h
      | some p =>
        rw [hi, Option.bind_some] at h
        split at h
        · cases h
        · rename_i h0
          cases hk : litP [47] p.2 with
          | none => rw [hk] at h; cases h
          | some v =>
            rw [hk, Option.bind_some] at h
            cases hs : smallP v with
            | none => rw [hs] at h; cases h
            | some q =>
              rw [hs] at h
              simp only [Option.map_some, Option.some.injEq, Prod.mk.injEq] at h
              obtain ⟨⟨rfl, rfl, rfl⟩, rfl⟩ := h
              refine ⟨?_, (intP_some hi).2⟩
              unfold predL
              rw [if_neg h0, litP_some hl, (intP_some hi).1, litP_some hk, (smallP_some hs).1]
              simp
  · cases hi : nameP l with
    | none => rw [hi] at h; cases h
    | some p =>
      rw [hi, Option.bind_some] at h
      cases hk : litP [47] p.2 with
      | none => rw [hk] at h; cases h
      | some v =>
        rw [hk, Option.bind_some] at h
        cases hs : smallP v with
        | none => rw [hs] at h; cases h
        | some q =>
          rw [hs] at h
          simp only [Option.map_some, Option.some.injEq, Prod.mk.injEq] at h
          obtain ⟨⟨rfl, rfl, rfl⟩, rfl⟩ := h
          refine ⟨?_, by unfold inR; omega⟩
          unfold predL
          rw [if_pos rfl, nameP_some hi, litP_some hk, (smallP_some hs).1]
          unfold funL
          simp
theorem pre_num (c : UInt8) (n : Int) (r : List UInt8) (h : c ≠ 45 ∧ digB c = false) : [c].isPrefixOf (numL n ++ r) = false := by
  obtain ⟨d, t, e, hd⟩ := num_cases n
  rw [e, List.cons_append, pre_cons]
  rcases hd with rfl | hd
  · simpa using h.1
  · have : c ≠ d := by rintro rfl; rw [h.2] at hd; cases hd
    simpa using this
theorem keyR_key {k n : Int} {s : ByteArray} {a : Int} (h : keyP k n s a = true) (hn : inR n) : keyR (keyL k n s.data.toList a) = some ((k, n, s.data.toList, a), []) := by
  by_cases h0 : k = 0
  · subst h0
    rw [key0] at h
    simp at h
    have es : s.data.toList = [] := nil_data h.2.1
    rw [es, h.1, h.2.2]
    rfl
  · by_cases h1 : k = 1
    · subst h1
      rw [key1] at h
      simp at h
      have es : s.data.toList = [] := nil_data h.1
      rw [es, h.2]
      show keyR (numL n) = _
      rw [← List.append_nil (numL n)]
      unfold keyR
      rw [pre_num 95 n [] (by decide), pre_num 34 n [] (by decide), if_neg (by simp), if_neg (by simp), intP_num hn rfl]
      rfl
    · by_cases h2 : k = 2
      · subst h2
        rw [key2] at h
        simp at h
        rw [h.2.1, h.2.2]
        show keyR (quoteL s.data.toList) = _
        rw [← List.append_nil (quoteL _)]
        unfold keyR
        rw [quote_head, pre_cons, pre_cons, if_neg (by decide), if_pos (by decide), ← quote_head, nameP_quote, Option.bind_some, if_neg (by rw [pre_nil]; simp)]
      · by_cases h3 : k = 3
        · subst h3
          rw [key3] at h
          simp at h
          rw [h.2.1]
          show keyR (funL s.data.toList a) = _
          unfold funL keyR
          rw [quote_head, pre_cons, pre_cons, if_neg (by decide), if_pos (by decide), ← quote_head, nameP_quote, Option.bind_some, pre_cons, if_pos (by decide)]
          have e := litP_app [47] (numL a ++ [])
          simp only [List.singleton_append] at e
          rw [← List.append_nil (numL a), e, Option.bind_some, smallP_num (by omega) rfl]
          rfl
        · rw [keyN n s a ⟨h0, h1, h2, h3⟩] at h
          cases h
theorem keyR_some {k n : Int} {l s r : List UInt8} {a : Int} (h : keyR l = some ((k, n, s, a), r)) : l = keyL k n s a ++ r ∧ inR n := by
  unfold keyR at h
  split at h
  · cases hl : litP [95] l with
    | none => rw [hl] at h; cases h
    | some u =>
      rw [hl] at h
      simp only [Option.map_some, Option.some.injEq, Prod.mk.injEq] at h
      obtain ⟨⟨rfl, rfl, rfl, rfl⟩, rfl⟩ := h
      exact ⟨litP_some hl, by unfold inR; omega⟩
  split at h
  · cases hi : nameP l with
    | none => rw [hi] at h; cases h
    | some p =>
      rw [hi, Option.bind_some] at h
      split at h
      · cases hk : litP [47] p.2 with
        | none => rw [hk] at h; cases h
        | some v =>
          rw [hk, Option.bind_some] at h
          cases hs : smallP v with
          | none => rw [hs] at h; cases h
          | some q =>
            rw [hs] at h
            simp only [Option.map_some, Option.some.injEq, Prod.mk.injEq] at h
            obtain ⟨⟨rfl, rfl, rfl, rfl⟩, rfl⟩ := h
            refine ⟨?_, by unfold inR; omega⟩
            show l = funL p.1 q.1 ++ q.2
            rw [nameP_some hi, litP_some hk, (smallP_some hs).1]
            unfold funL
            simp
      · simp only [Option.some.injEq, Prod.mk.injEq] at h
        obtain ⟨⟨rfl, rfl, rfl, rfl⟩, rfl⟩ := h
        exact ⟨nameP_some hi, by unfold inR; omega⟩
  · cases hi : intP l with
    | none => rw [hi] at h; cases h
    | some p =>
      rw [hi] at h
      simp only [Option.map_some, Option.some.injEq, Prod.mk.injEq] at h
      obtain ⟨⟨rfl, rfl, rfl, rfl⟩, rfl⟩ := h
      exact intP_some hi
end
section
open Go.RowKit

def isFld (c : UInt8) : Prop := c = 114 ∨ c = 97 ∨ c = 110 ∨ c = 118 ∨ c = 99 ∨ c = 115 ∨ c = 102 ∨ c = 112
theorem lit32 (l : List UInt8) : litP [32] (32 :: l) = some l := litP_app [32] l
theorem lit47 (l : List UInt8) : litP [47] (47 :: l) = some l := litP_app [47] l
theorem fieldP_field {x y : In} {c : UInt8} {r : List UInt8} (hc : isFld c) (h : fieldOk x c = true) (hn : inR x.n) (hr : ndig r = true) :
    fieldP y c (32 :: (fieldL x c ++ r)) = some (wantStep x y c, r) := by
  unfold fieldP
  rw [lit32, Option.bind_some]
  have hnum : fieldL x c = numL x.n → intP (fieldL x c ++ r) = some (x.n, r) := fun e => by rw [e]; exact intP_num hn hr
  rcases hc with rfl | rfl | rfl | rfl | rfl | rfl | rfl | rfl
  · have h' : rOk x.r = true := h
    simp [rOk] at h'
    show Option.map _ (regP (regL x.r ++ r)) = _
    rw [regP_reg h' hr]
    rfl
  · have h' : aOk x.a = true := h
    simp [aOk] at h'
    show Option.map _ (regP (regL x.a ++ r)) = _
    rw [regP_reg (by omega) hr]
    rfl
  · show Option.map _ (intP (numL x.n ++ r)) = _
    rw [intP_num hn hr]; rfl
  · show Option.map _ (intP (numL x.n ++ r)) = _
    rw [intP_num hn hr]; rfl
  · show Option.map _ (intP (numL x.n ++ r)) = _
    rw [intP_num hn hr]; rfl
  · show Option.map _ (nameP (quoteL x.nm.data.toList ++ r)) = _
    rw [nameP_quote]
    show some ({ y with nm := S x.nm.data.toList }, r) = _
    rw [S_eta]; rfl
  · have h' : (nmOk x.nm && (decide (1 ≤ x.ar) && decide (x.ar ≤ 8))) = true := h
    simp at h'
    show Option.bind (nameP (funL x.nm.data.toList x.ar ++ r)) _ = _
    unfold funL
    rw [List.append_assoc, nameP_quote, Option.bind_some]
    show (litP [47] (47 :: (numL x.ar ++ r))).bind _ = _
    rw [lit47, Option.bind_some, smallP_num (by omega) hr]
    show some ({ y with nm := S x.nm.data.toList, ar := x.ar }, r) = _
    rw [S_eta]; rfl
  · have h' : pdOk x.nm x.ar x.n = true := h
    show Option.map _ (predP (predL x.nm.data.toList x.ar x.n ++ r)) = _
    rw [predP_pred h' hr]
    show some ({ y with nm := S x.nm.data.toList, ar := x.ar, n := x.n }, r) = _
    rw [S_eta]; rfl
theorem fieldP_some {x y : In} {c : UInt8} {l r : List UInt8} (hc : isFld c) (h : fieldP x c l = some (y, r)) : l = 32 :: (fieldL y c ++ r) ∧ y = wantStep y x c ∧ (inR x.n → inR y.n) := by
  unfold fieldP at h
  cases hl : litP [32] l with
  | none => rw [hl] at h; cases h
  | some u =>
    rw [hl, Option.bind_some] at h
    have el := litP_some hl
    have hnum : (intP u).map (fun p => ({ x with n := p.1 }, p.2)) = some (y, r) → u = numL y.n ++ r ∧ y = { x with n := y.n } ∧ inR y.n := fun h => by
      cases hi : intP u with
      | none => rw [hi] at h; cases h
      | some p =>
        rw [hi] at h
        simp only [Option.map_some, Option.some.injEq, Prod.mk.injEq] at h
        obtain ⟨rfl, rfl⟩ := h
        exact ⟨(intP_some hi).1, rfl, (intP_some hi).2⟩
    rcases hc with rfl | rfl | rfl | rfl | rfl | rfl | rfl | rfl
    · have h' : (regP u).map (fun p => ({ x with r := p.1 }, p.2)) = some (y, r) := h
      cases hi : regP u with
      | none => rw [hi] at h'; cases h'
      | some p =>
        rw [hi] at h'
        simp only [Option.map_some, Option.some.injEq, Prod.mk.injEq] at h'
        obtain ⟨rfl, rfl⟩ := h'
        exact ⟨by rw [el, (regP_some hi).1]; rfl, rfl, fun h => h⟩
    · have h' : (regP u).map (fun p => ({ x with a := p.1 }, p.2)) = some (y, r) := h
      cases hi : regP u with
      | none => rw [hi] at h'; cases h'
      | some p =>
        rw [hi] at h'
        simp only [Option.map_some, Option.some.injEq, Prod.mk.injEq] at h'
        obtain ⟨rfl, rfl⟩ := h'
        exact ⟨by rw [el, (regP_some hi).1]; rfl, rfl, fun h => h⟩
    · have := hnum h
      exact ⟨by rw [el, this.1]; rfl, this.2.1, fun _ => this.2.2⟩
    · have := hnum h
      exact ⟨by rw [el, this.1]; rfl, this.2.1, fun _ => this.2.2⟩
    · have := hnum h
      exact ⟨by rw [el, this.1]; rfl, this.2.1, fun _ => this.2.2⟩
    · have h' : (nameP u).map (fun p => ({ x with nm := S p.1 }, p.2)) = some (y, r) := h
      cases hi : nameP u with
      | none => rw [hi] at h'; cases h'
      | some p =>
        rw [hi] at h'
        simp only [Option.map_some, Option.some.injEq, Prod.mk.injEq] at h'
        obtain ⟨rfl, rfl⟩ := h'
        refine ⟨?_, rfl, fun h => h⟩
        show l = 32 :: (quoteL (S p.1).data.toList ++ p.2)
        rw [S_list, el, nameP_some hi]; rfl
    · have h' : (nameP u).bind (fun p => (litP [47] p.2).bind fun v => (smallP v).map fun q => ({ x with nm := S p.1, ar := q.1 }, q.2)) = some (y, r) := h
      cases hi : nameP u with
      | none => rw [hi] at h'; cases h'
      | some p =>
        rw [hi, Option.bind_some] at h'
        cases hk : litP [47] p.2 with
        | none => rw [hk] at h'; cases h'
        | some v =>
          rw [hk, Option.bind_some] at h'
          cases hs : smallP v with
          | none => rw [hs] at h'; cases h'
          | some q =>
            rw [hs] at h'
            simp only [Option.map_some, Option.some.injEq, Prod.mk.injEq] at h'
            obtain ⟨rfl, rfl⟩ := h'
            refine ⟨?_, rfl, fun h => h⟩
            show l = 32 :: (funL (S p.1).data.toList q.1 ++ q.2)
            rw [S_list, el, nameP_some hi, litP_some hk, (smallP_some hs).1]
            unfold funL
            simp
    · have h' : (predP u).map (fun p => ({ x with nm := S p.1.1, ar := p.1.2.1, n := p.1.2.2 }, p.2)) = some (y, r) := h
      cases hi : predP u with
      | none => rw [hi] at h'; cases h'
      | some p =>
        rw [hi] at h'
        simp only [Option.map_some, Option.some.injEq, Prod.mk.injEq] at h'
        obtain ⟨rfl, rfl⟩ := h'
        obtain ⟨⟨s, a, n⟩, v⟩ := p
        refine ⟨?_, rfl, fun _ => (predP_some hi).2⟩
        show l = 32 :: (predL (S s).data.toList a n ++ v)
        rw [S_list, el, (predP_some hi).1]; rfl
theorem fieldsP_list {x : In} (hn : inR x.n) : ∀ (cs : List UInt8) (y : In), (∀ c ∈ cs, isFld c) → cs.all (fieldOk x) = true →
    fieldsP cs y (cs.flatMap fun c => 32 :: fieldL x c) = some (cs.foldl (wantStep x) y, [])
  | [], y, _, _ => rfl
  | c :: cs, y, hc, ho => by
    rw [List.flatMap_cons, List.cons_append]
    unfold fieldsP
    simp only [List.all_cons, Bool.and_eq_true] at ho
    have hr : ndig (cs.flatMap fun c => 32 :: fieldL x c) = true := by
      cases cs with
      | nil => rfl
      | cons d ds => rfl
    rw [fieldP_field (hc c (by simp)) ho.1 hn hr, Option.bind_some]
    exact fieldsP_list hn cs _ (fun d hd => hc d (by simp [hd])) ho.2
theorem pure_in {x y : In} (h : sameI x y = true) : x = y := by
  obtain ⟨op, r, a, n, nm, ar⟩ := x
  obtain ⟨op', r', a', n', nm', ar'⟩ := y
  simp [sameI] at h
  obtain ⟨rfl, rfl, rfl, rfl, h5, rfl⟩ := h
  have : nm = nm' := by rw [ByteArray.toList_eq, ByteArray.toList_eq] at h5; rw [← S_eta nm, ← S_eta nm', h5]
  rw [this]
theorem fo_same {x : In} (h : fo x = true) : wantOf x (flds x.op) = x ∧ (flds x.op).all (fieldOk x) = true := by
  unfold fo at h
  simp only [Bool.and_eq_true] at h
  exact ⟨(pure_in h.2).symm, h.1.2⟩
/-- fields of opcodes: at most two, the first a register -/
theorem flds_two {op : Int} (h : okOp op = true) : flds op = [] ∨ (∃ c, flds op = [c] ∧ isFld c) ∨ (∃ c d, flds op = [c, d] ∧ (c = 114 ∧ (d = 97 ∨ d = 102) ∨ c = 97 ∧ (d = 110 ∨ d = 115 ∨ d = 102))) := by
  have e1 : ∀ {c : UInt8}, flds op = [c] → isFld c → flds op = [] ∨ (∃ c, flds op = [c] ∧ isFld c) ∨ (∃ c d, flds op = [c, d] ∧ (c = 114 ∧ (d = 97 ∨ d = 102) ∨ c = 97 ∧ (d = 110 ∨ d = 115 ∨ d = 102))) := fun h h' => .inr (.inl ⟨_, h, h'⟩)
  have e2 : ∀ {c d : UInt8}, flds op = [c, d] → (c = 114 ∧ (d = 97 ∨ d = 102) ∨ c = 97 ∧ (d = 110 ∨ d = 115 ∨ d = 102)) → flds op = [] ∨ (∃ c, flds op = [c] ∧ isFld c) ∨ (∃ c d, flds op = [c, d] ∧ (c = 114 ∧ (d = 97 ∨ d = 102) ∨ c = 97 ∧ (d = 110 ∨ d = 115 ∨ d = 102))) := fun h h' => .inr (.inr ⟨_, _, h, h'⟩)
  rcases op_cases h with rfl | rfl | rfl | rfl | rfl | rfl | rfl | rfl | rfl | rfl | rfl | rfl | rfl | rfl | rfl | rfl | rfl | rfl | rfl | rfl | rfl | rfl | rfl | rfl | rfl
  all_goals first
    | exact .inl rfl
    | exact e1 rfl (by unfold isFld; decide)
    | exact e2 rfl (by decide)
theorem fieldL_stay {y z : In} {c d : UInt8} (h : c = 114 ∧ (d = 97 ∨ d = 102) ∨ c = 97 ∧ (d = 110 ∨ d = 115 ∨ d = 102)) : fieldL (wantStep z y d) c = fieldL y c := by
  rcases h with ⟨rfl, rfl | rfl⟩ | ⟨rfl, rfl | rfl | rfl⟩ <;> rfl
theorem want_op (x y : In) (c : UInt8) : (wantStep x y c).op = y.op := by
  unfold wantStep
  repeat' split
  all_goals rfl
theorem fieldsP_some {x y : In} {op : Int} {l r : List UInt8} (h : okOp op = true) (hn : inR x.n) (hf : fieldsP (flds op) x l = some (y, r)) :
    l = ((flds op).flatMap fun c => 32 :: fieldL y c) ++ r ∧ y.op = x.op ∧ inR y.n := by
  rcases flds_two h with e | ⟨c, e, hc⟩ | ⟨c, d, e, hcd⟩
  · rw [e] at hf ⊢
    injection hf with hf
    injection hf with h1 h2
    subst h1 h2
    exact ⟨rfl, rfl, hn⟩
  · rw [e] at hf ⊢
    unfold fieldsP at hf
    cases h1 : fieldP x c l with
    | none => rw [h1] at hf; cases hf
    | some p =>
      rw [h1] at hf
      injection hf with hf
      injection hf with h2 h3
      subst h2 h3
      have := fieldP_some hc h1
      refine ⟨?_, by rw [this.2.1]; exact want_op _ _ _, this.2.2 hn⟩
      rw [this.1]; simp
  · have hc : isFld c := by unfold isFld; rcases hcd with ⟨rfl, _⟩ | ⟨rfl, _⟩ <;> simp
    have hd : isFld d := by unfold isFld; rcases hcd with ⟨_, rfl | rfl⟩ | ⟨_, rfl | rfl | rfl⟩ <;> simp
    rw [e] at hf ⊢
    unfold fieldsP at hf
    cases h1 : fieldP x c l with
    | none => rw [h1] at hf; cases hf
    | some p =>
      rw [h1, Option.bind_some] at hf
      unfold fieldsP at hf
      cases h2 : fieldP p.1 d p.2 with
      | none => rw [h2] at hf; cases hf
      | some q =>
        rw [h2] at hf
        injection hf with hf
        injection hf with h3 h4
        subst h3 h4
        have t1 := fieldP_some hc h1
        have t2 := fieldP_some hd h2
        have e3 : fieldL q.1 c = fieldL p.1 c := by rw [t2.2.1]; exact fieldL_stay hcd
        refine ⟨?_, by rw [t2.2.1, want_op, t1.2.1, want_op], t2.2.2 (t1.2.2 hn)⟩
        rw [t1.1, t2.1]
        simp [e3]
theorem name_op {op : Int} (h : okOp op = true) : opOf (nameL op) = op ∧ (nameL op).all (· != 32) = true := by
  rcases op_cases h with rfl | rfl | rfl | rfl | rfl | rfl | rfl | rfl | rfl | rfl | rfl | rfl | rfl | rfl | rfl | rfl | rfl | rfl | rfl | rfl | rfl | rfl | rfl | rfl | rfl
  all_goals decide +kernel
theorem opOf_some {s : List UInt8} (h : opOf s ≠ 0) : nameL (opOf s) = s ∧ okOp (opOf s) = true := by
  have key : ∀ o : Option Int, (((List.range 26).map fun k : Nat => (k : Int)).find? (fun k => nameL k == s)) = o → opOf s = o.getD 0 := fun o ho => by unfold opOf; rw [ho]
  cases hf : ((List.range 26).map fun k : Nat => (k : Int)).find? (fun k => nameL k == s) with
  | none => exact absurd (key _ hf) h
  | some k =>
    have e : opOf s = k := key _ hf
    have h1 := List.find?_some hf
    have h2 := List.mem_of_find?_eq_some hf
    rw [e] at h ⊢
    rw [List.mem_map] at h2
    obtain ⟨j, hj, rfl⟩ := h2
    have hj := List.mem_range.1 hj
    refine ⟨by simpa using h1, ?_⟩
    unfold okOp
    simp only [Bool.and_eq_true, decide_eq_true_eq]
    omega
theorem takeW_app {p : UInt8 → Bool} {l r : List UInt8} (hl : l.all p = true) (hr : r = [] ∨ ∃ c t, r = c :: t ∧ p c = false) : (l ++ r).takeWhile p = l := by
  induction l with
  | nil =>
    rcases hr with rfl | ⟨c, t, rfl, hc⟩
    · rfl
    · simp [hc]
  | cons c t ih =>
    simp only [List.all_cons, Bool.and_eq_true] at hl
    rw [List.cons_append, List.takeWhile_cons, hl.1, if_pos rfl, ih hl.2]
theorem takeW_drop (p : UInt8 → Bool) (l : List UInt8) : l.takeWhile p ++ l.drop (l.takeWhile p).length = l := by
  induction l with
  | nil => rfl
  | cons c t ih =>
    rw [List.takeWhile_cons]
    split
    · simp only [List.length_cons, List.drop_succ_cons, List.cons_append, ih]
    · rfl
theorem lineP_line {x : In} (h : fo x = true) (hn : inR x.n) : lineP (lineL x) = some x := by
  have ho := fo_op h
  have hs := name_op ho
  have hne : x.op ≠ 0 := by unfold okOp at ho; simp at ho; omega
  have ht : (lineL x).takeWhile (· != 32) = nameL x.op := by
    unfold lineL
    refine takeW_app hs.2 ?_
    cases hf : flds x.op with
    | nil => exact .inl rfl
    | cons c cs => exact .inr ⟨32, _, by rw [List.flatMap_cons, List.cons_append], rfl⟩
  unfold lineP
  simp only [ht, hs.1]
  rw [if_neg hne]
  have hd : (lineL x).drop (nameL x.op).length = (flds x.op).flatMap fun c => 32 :: fieldL x c := by
    unfold lineL
    rw [List.drop_left']
    rfl
  have hf := fo_same h
  rw [hd, fieldsP_list hn _ _ (fun c hc => flds_mem _ c hc) hf.2, Option.bind_some]
  have e : (flds x.op).foldl (wantStep x) ⟨x.op, 0, 0, 0, ⟨#[]⟩, 0⟩ = x := hf.1
  rw [e, h]
  rfl
theorem lineP_some {l : List UInt8} {x : In} (h : lineP l = some x) : fo x = true ∧ lineL x = l ∧ inR x.n := by
  unfold lineP at h
  simp only at h
  split at h
  · cases h
  · rename_i h0
    have hs := opOf_some h0
    cases hf : fieldsP (flds (opOf (l.takeWhile (· != 32)))) ⟨opOf (l.takeWhile (· != 32)), 0, 0, 0, ⟨#[]⟩, 0⟩ (l.drop (l.takeWhile (· != 32)).length) with
    | none => rw [hf] at h; cases h
    | some p =>
      rw [hf, Option.bind_some] at h
      split at h
      · rename_i hh
        injection h with h
        subst h
        simp only [Bool.and_eq_true, List.isEmpty_iff] at hh
        have t := fieldsP_some hs.2 (show inR 0 by unfold inR; omega) hf
        refine ⟨hh.1, ?_, t.2.2⟩
        unfold lineL
        have e : p.1.op = opOf (l.takeWhile (· != 32)) := t.2.1
        rw [e, hs.1]
        have e2 := t.1
        rw [hh.2, List.append_nil] at e2
        rw [← e2]
        exact takeW_drop _ _
      · cases h
theorem headP_head {b : Bk} (h : hdP b = true) (h2 : inR b.kn) (hb : b.code = []) : headP (headL b) = some b := by
  have h' := h
  unfold hdP at h'
  simp only [Bool.and_eq_true, decide_eq_true_eq] at h'
  unfold headP headL
  rw [litP_app, Option.bind_some, intP_num (by unfold inR; omega) rfl, Option.bind_some, lit32, Option.bind_some, predP_pred h'.2.1 rfl, Option.bind_some, lit32, Option.bind_some, keyR_key h'.2.2 h2, Option.bind_some]
  obtain ⟨id, pn, par, paux, kk, kn, knm, kar, code⟩ := b
  subst hb
  simp only [S_eta]
  rw [h]
  rfl
theorem headP_some {l : List UInt8} {b : Bk} (h : headP l = some b) : hdP b = true ∧ headL b = l ∧ b.code = [] ∧ inR b.kn := by
  unfold headP at h
  cases h1 : litP blockW l with
  | none => rw [h1] at h; cases h
  | some u =>
    rw [h1, Option.bind_some] at h
    cases h2 : intP u with
    | none => rw [h2] at h; cases h
    | some p =>
      rw [h2, Option.bind_some] at h
      cases h3 : litP [32] p.2 with
      | none => rw [h3] at h; cases h
      | some v =>
        rw [h3, Option.bind_some] at h
        cases h4 : predP v with
        | none => rw [h4] at h; cases h
        | some q =>
          rw [h4, Option.bind_some] at h
          cases h5 : litP [32] q.2 with
          | none => rw [h5] at h; cases h
          | some z =>
            rw [h5, Option.bind_some] at h
            cases h6 : keyR z with
            | none => rw [h6] at h; cases h
            | some r =>
              rw [h6, Option.bind_some] at h
              simp only at h
              split at h
              · rename_i hh
                injection h with h
                simp only [Bool.and_eq_true, List.isEmpty_iff] at hh
                obtain ⟨⟨s, a, n⟩, q2⟩ := q
                obtain ⟨⟨k, m, t, c⟩, r2⟩ := r
                simp only at h hh h3 h5
                refine ⟨by rw [← h]; exact hh.1, ?_, by rw [← h], by rw [← h]; exact (keyR_some h6).2⟩
                rw [← h]
                unfold headL
                simp only [S_list]
                rw [litP_some h1, (intP_some h2).1, litP_some h3, (predP_some h4).1, litP_some h5, (keyR_some h6).1, hh.2]
                simp
              · cases h
end
end Go.Proofs.YtbipeakinmbdiaaGreatDoor
