/-
  The value of an expression, plain; ranges; the walk of raise.
-/
import Derived.Test.YtcagaaacfcpoeaaGreatCh
import Derived.Test.YtcagaaacfcpoeaaGreatAn
namespace Go.Proofs.YtcagaaacfcpoeaaGreat
open Go.RowKit

theorem wrap_i64 (n : Int) : inR (IntKind.i64.wrap n) := by
  unfold inR IntKind.wrap
  simp only [show IntKind.i64.bits = 64 from rfl, show IntKind.i64.signed = true from rfl, Bool.true_and]
  split <;> simp_all <;> omega
theorem bits_in (op : BinOp) (x y : Int) : inR (bits op .i64 x y) := wrap_i64 _
theorem bits2_in (op : BinOp) (x y e : Int) : inR ((bits op .i64 x y, e) : Int × Int).1 := bits_in op x y
theorem ovf_inR (n : Int) : inR (ovf n).1 := by
  unfold ovf
  split
  · assumption
  · decide
theorem in0 : inR 0 := by decide
theorem ite_in {c : Prop} [Decidable c] {x y : Int × Int} (h1 : inR x.1) (h2 : inR y.1) : inR (if c then x else y).1 := by
  split
  · exact h1
  · exact h2
theorem absE_in {a : Int} (ha : inR a) : inR (absE a).1 := by
  unfold absE
  exact ite_in (ovf_inR _) ha
theorem sgn_in (a : Int) : inR (sgn a) := by
  unfold sgn
  split
  · decide
  · split <;> decide
theorem unS_in (x : ByteArray) {a : Int} (ha : inR a) : inR (unS x a).1 := by
  unfold unS
  exact ite_in (ovf_inR _) (ite_in ha (ite_in (absE_in ha) (ite_in (sgn_in a) (ite_in (bits2_in _ _ _ _) in0))))
theorem quo_in (a b : Int) : inR (quo a b).1 := by
  unfold quo
  split
  · exact in0
  · exact ovf_inR _
theorem rmd_in {a b : Int} (hb : inR b) : inR (rmd a b).1 := by
  unfold rmd
  split
  · exact in0
  · exact (tmod_in hb (by assumption)).1
theorem mdl_in {a b : Int} (hb : inR b) : inR (mdl a b).1 := by
  unfold mdl
  split
  · exact in0
  · exact (tmod_in hb (by assumption)).2
theorem flr_in {a b : Int} (ha : inR a) : inR (flr a b).1 := by
  unfold flr
  split
  · exact in0
  · split
    · exact in0
    · rename_i h1 h2
      by_cases ho : off a b
      · simpa [ho] using flr_wrap ha h1 h2 ho
      · simpa [ho] using tdiv_in ha h1 h2
theorem shrR_in {a b : Int} (ha : inR a) : inR (shr a b).1 := by
  unfold shr
  split
  · exact in0
  · rename_i h
    have hp := (pow_bound (k := b.toNat) (by omega)).1
    unfold inR at *
    refine ⟨?_, ?_⟩
    · rw [Int.le_ediv_iff_mul_le (by omega)]
      generalize (2 : Int) ^ b.toNat = p at *
      omega
    · have h1 : a / 2 ^ b.toNat ≤ (a.natAbs : Int) := by
        have h3 := Int.ediv_le_self (b := 2 ^ b.toNat) (a := (a.natAbs : Int)) (by omega)
        have h4 : a / 2 ^ b.toNat ≤ (a.natAbs : Int) / 2 ^ b.toNat := Int.ediv_le_ediv (by omega) (by omega)
        omega
      by_cases h0 : 0 ≤ a
      · omega
      · have := Int.ediv_neg_of_neg_of_pos (a := a) (b := 2 ^ b.toNat) (by omega) (by omega)
        omega
theorem shl_inR (a b : Int) : inR (shl a b).1 := by
  unfold shl
  split
  · exact in0
  · exact ovf_inR _
theorem pw_inR (a b : Int) : inR (pw a b).1 := by
  unfold pw
  repeat' split
  all_goals first | exact ovf_inR _ | decide
theorem min_in {a b : Int} (ha : inR a) (hb : inR b) : inR (min a b) := by unfold inR at *; omega
theorem max_in {a b : Int} (ha : inR a) (hb : inR b) : inR (max a b) := by unfold inR at *; omega
theorem binS_in (x : ByteArray) {a b : Int} (ha : inR a) (hb : inR b) : inR (binS x a b).1 := by
  unfold binS
  exact ite_in (ovf_inR _) (ite_in (ovf_inR _) (ite_in (ovf_inR _) (ite_in (quo_in _ _) (ite_in (rmd_in hb) (ite_in (flr_in ha) (ite_in (mdl_in hb) (ite_in (min_in ha hb) (ite_in (max_in ha hb) (ite_in (shrR_in ha) (ite_in (shl_inR _ _) (ite_in (bits2_in _ _ _ _) (ite_in (bits2_in _ _ _ _) (ite_in (bits2_in _ _ _ _) (ite_in (pw_inR _ _) (ite_in (ovf_inR _) in0)))))))))))))))
/-- what a function's value and code come to -/
def valR (p : Int × Int) : Except Tm Int :=
  if p.2 = 10 then .error (evalC { data := #[105, 110, 116, 95, 111, 118, 101, 114, 102, 108, 111, 119] })
  else if p.2 = 11 then .error (evalC { data := #[122, 101, 114, 111, 95, 100, 105, 118, 105, 115, 111, 114] })
  else if p.2 = 12 then .error (evalC { data := #[117, 110, 100, 101, 102, 105, 110, 101, 100] })
  else .ok p.1
def finV (s : ByteArray) : List Int → Except Tm Int
  | [] => .ok 0
  | [x] => valR (unS s x)
  | x :: y :: _ => valR (binS s x y)
/-- the ball of a function that is not known -/
@[reducible] def unkC (s : ByteArray) (n : Nat) : Tm := typeC { data := #[101, 118, 97, 108, 117, 97, 98, 108, 101] } (indC s (n : Int))
/-- the value of an expression, or its ball -/
def valT : Tm → Except Tm Int
  | .mk k n s a => if (k == 1) = true then .ok n else if (k == 0) = true then .error instC else if knS s (a.length : Int) = false then .error (unkC s a.length)
    else match go a with
      | .error b => .error b
      | .ok l => finV s l
where go : List Tm → Except Tm (List Int)
  | [] => .ok []
  | x :: r => match valT x with
    | .error b => .error b
    | .ok v => match go r with
      | .error b => .error b
      | .ok l => .ok (v :: l)
/-- all numbers are in the range of an int64 -/
def rngT : Tm → Bool
  | .mk _ n _ a => decide (-9223372036854775808 ≤ n ∧ n ≤ 9223372036854775807) && go a
where go : List Tm → Bool
  | [] => true
  | x :: r => rngT x && go r
theorem rngT_eq (t : Tm) : rngT t = (decide (inR t.n) && rngT.go t.args) := by cases t; rfl
theorem rngT_n {t : Tm} (h : rngT t = true) : inR t.n := by rw [rngT_eq] at h; simp at h; exact h.1
theorem rngT_args {t : Tm} (h : rngT t = true) : rngT.go t.args = true := by rw [rngT_eq] at h; simp only [Bool.and_eq_true] at h; exact h.2
theorem rngT_at {l : List Tm} {i : Nat} {x : Tm} (h : rngT.go l = true) (hx : l[i]? = some x) : rngT x = true := by
  induction l generalizing i with
  | nil => simp at hx
  | cons y r ih =>
    simp only [rngT.go, Bool.and_eq_true] at h
    cases i with
    | zero => simp at hx; subst hx; exact h.1
    | succ i => exact ih h.2 (by simpa using hx)
theorem valT_int {t : Tm} (h : t.kind = 1) : valT t = .ok t.n := by
  cases t; simp only [Tm.kind] at h; subst h; simp [valT, Tm.n]
theorem valT_var {t : Tm} (h : t.kind = 0) : valT t = .error instC := by
  cases t; simp only [Tm.kind] at h; subst h; simp [valT]
theorem valT_unk {t : Tm} (h1 : t.kind ≠ 1) (h0 : t.kind ≠ 0) (hk : knS t.name (t.args.length : Int) = false) : valT t = .error (unkC t.name t.args.length) := by
  cases t
  simp only [Tm.kind, Tm.name, Tm.args] at h1 h0 hk ⊢
  unfold valT
  rw [if_neg (by simpa using h1), if_neg (by simpa using h0), if_pos hk]
theorem valT_fun {t : Tm} (h1 : t.kind ≠ 1) (h0 : t.kind ≠ 0) (hk : knS t.name (t.args.length : Int) = true) : valT t = match valT.go t.args with | .error b => .error b | .ok l => finV t.name l := by
  cases t
  simp only [Tm.kind, Tm.name, Tm.args] at h1 h0 hk ⊢
  rw [valT, if_neg (by simpa using h1), if_neg (by simpa using h0), if_neg (by simp [hk])]
theorem valT_go_snoc (l : List Tm) (x : Tm) : valT.go (l ++ [x]) = match valT.go l with | .error b => .error b | .ok vs => match valT x with | .error b => .error b | .ok v => .ok (vs ++ [v]) := by
  induction l with
  | nil => simp only [List.nil_append, valT.go]
  | cons y r ih =>
    simp only [List.cons_append, valT.go, ih]
    cases valT y with
    | error b => rfl
    | ok v =>
      dsimp only
      cases valT.go r with
      | error b => rfl
      | ok vs => dsimp only; cases valT x <;> rfl
theorem valT_go_app (l m : List Tm) : valT.go (l ++ m) = match valT.go l with | .error b => .error b | .ok vs => match valT.go m with | .error b => .error b | .ok us => .ok (vs ++ us) := by
  induction l with
  | nil => simp only [List.nil_append, valT.go]; cases valT.go m <;> simp
  | cons y r ih =>
    simp only [List.cons_append, valT.go, ih]
    cases valT y with
    | error b => rfl
    | ok v =>
      dsimp only
      cases valT.go r with
      | error b => rfl
      | ok vs => dsimp only; cases valT.go m <;> rfl
theorem valT_go_len {l : List Tm} {vs : List Int} (h : valT.go l = .ok vs) : vs.length = l.length := by
  induction l generalizing vs with
  | nil => simp only [valT.go] at h; injection h with h; subst h; rfl
  | cons x r ih =>
    simp only [valT.go] at h
    cases hx : valT x with
    | error b => rw [hx] at h; cases h
    | ok v =>
      rw [hx] at h
      dsimp only at h
      cases hr : valT.go r with
      | error b => rw [hr] at h; cases h
      | ok us =>
        rw [hr] at h
        injection h with h
        subst h
        simp [ih hr]
theorem valR_in {p : Int × Int} {n : Int} (hp : inR p.1) (h : valR p = .ok n) : inR n := by
  unfold valR at h
  repeat' split at h
  all_goals first | (injection h with h; subst h; exact hp) | cases h
theorem finV_in {s : ByteArray} {l : List Int} {n : Int} (hl : ∀ x ∈ l, inR x) (h : finV s l = .ok n) : inR n := by
  match l, hl, h with
  | [], _, h => injection h with h; subst h; exact in0
  | [x], hl, h => exact valR_in (unS_in s (hl x (by simp))) h
  | x :: y :: r, hl, h => exact valR_in (binS_in s (hl x (by simp)) (hl y (by simp))) h
/-- values are in range -/
theorem valT_in (N : Nat) : ∀ (t : Tm), cnt t < N → rngT t = true → ∀ n, valT t = .ok n → inR n := by
  induction N with
  | zero => intro t h; omega
  | succ N ih =>
    intro t hN hr n hv
    have hgo : ∀ (a : List Tm), cnt.go a < N → rngT.go a = true → ∀ l, valT.go a = .ok l → ∀ x ∈ l, inR x := fun a => by
      induction a with
      | nil => intro _ _ l hl x hx; simp only [valT.go] at hl; injection hl with hl; subst hl; simp at hx
      | cons y r ihr =>
        intro h1 h2 l hl x hx
        simp only [cnt.go] at h1
        simp only [rngT.go, Bool.and_eq_true] at h2
        simp only [valT.go] at hl
        cases hy : valT y with
        | error b => rw [hy] at hl; cases hl
        | ok v =>
          rw [hy] at hl
          dsimp only at hl
          cases hr : valT.go r with
          | error b => rw [hr] at hl; cases hl
          | ok us =>
            rw [hr] at hl
            injection hl with hl
            subst hl
            rcases List.mem_cons.1 hx with rfl | hx
            · exact ih y (by omega) h2.1 _ hy
            · exact ihr (by omega) h2.2 us hr x hx
    have h2 := cnt_eq t
    by_cases h1 : t.kind = 1
    · rw [valT_int h1] at hv
      injection hv with hv
      subst hv
      exact rngT_n hr
    · by_cases h0 : t.kind = 0
      · rw [valT_var h0] at hv; cases hv
      · cases hk : knS t.name (t.args.length : Int)
        · rw [valT_unk h1 h0 hk] at hv; cases hv
        · rw [valT_fun h1 h0 hk] at hv
          cases hg : valT.go t.args with
          | error b => rw [hg] at hv; cases hv
          | ok l =>
            rw [hg] at hv
            exact finV_in (hgo t.args (by omega) (rngT_args hr) l hg) hv
/-- a ball has been raised -/
def Raised (w : World) (b : Tm) (e : Ending) (w' : World) : Prop := ∃ A c, e = .panicked [{ v := .iface 65 (b.v A c), recovered := false }] ∧ ArgsAt w' (Btw w.heap.size w'.heap.size) A b.args
theorem raise44_any (t : Tm) (A : Option Addr) (c : Nat) (w : World) : Calls Tryz.prog 60 #[t.v A c] w fun e w' => e = .panicked [{ v := .iface 65 (t.v A c), recovered := false }] ∧ w' = w.alloc (.cells #[.int .i64 t.kind, .int .i64 t.n, .string t.name, .slice A t.args.length c] 24) := by
  go_enter Tryz.func60, Tryz.ntmps60
  go_wp2
  exact ⟨rfl, rfl, rfl⟩
end Go.Proofs.YtcagaaacfcpoeaaGreat
