/-
  Plain law: registers and base are moved together.
-/
import Derived.Test.YteffpeokialeiaaCb
import Derived.Test.YteffpeokialeiaaBi
namespace Go.Proofs.Yteffpeokialeiaa
open Go.RowKit

def sg (base by_ y : Int) : Int := if base < y then y + by_ else y
def mvI (base by_ : Int) (x : In) : In := { x with r := sg base by_ x.r, a := sg base by_ x.a }
def movedP (l : List In) (base by_ : Int) : List In := l.map (mvI base by_)
def shT (by_ : Int) (t : Tm) : Tm := ⟨t.x + by_, t.n + by_, t.f, t.l⟩
theorem fo_reg {y : In} (h : fo y = true) : (rOk y.r = true ∨ y.r = 0) ∧ (aOk y.a = true ∨ y.a = 0) := by
  rcases kinds h with h | h | h | h | h | h | h | h | h | ⟨h, _⟩
  all_goals
    have h1 := h.r
    have h2 := h.a
    simp only [fits] at h1 h2
    first | exact ⟨.inl h1, .inl h2⟩ | exact ⟨.inl h1, .inr h2⟩ | exact ⟨.inr h1, .inl h2⟩ | exact ⟨.inr h1, .inr h2⟩
theorem valid_ar {base : Int} : ∀ {l : List In} {s : List Int}, vl base l s = true → ∀ x ∈ l, (x.op = 19 ∨ x.op = 20) → x.ar ≤ base
  | [], _, _, x, hx, _ => by cases hx
  | y :: l, s, h, x, hx, ho => by
    unfold vl at h
    simp only [Bool.and_eq_true, Bool.not_eq_true'] at h
    rcases List.mem_cons.1 hx with rfl | hx
    · have := h.1
      unfold badB at this
      simp only [Bool.or_eq_false_iff, Bool.not_eq_false'] at this
      have h2 := this.2
      simp at h2
      exact h2 ho
    · exact valid_ar h.2.2 x hx ho
theorem least_sg {by_ : Int} (l : List Int) : ∀ (fuel : Nat) (n : Int), leastFrom (l.map (· + by_)) fuel (n + by_) = leastFrom l fuel n + by_
  | 0, n => rfl
  | fuel + 1, n => by
    unfold leastFrom
    have e : (l.map (· + by_)).contains (n + by_) = l.contains n := by
      rw [Bool.eq_iff_iff]
      simp only [List.contains_iff_mem, List.mem_map]
      constructor
      · rintro ⟨z, hz, h⟩; rwa [show n = z by omega]
      · exact fun h => ⟨n, h, rfl⟩
    rw [e]
    split
    · have := least_sg (by_ := by_) l fuel (n + 1)
      rw [show n + by_ + 1 = n + 1 + by_ by omega]; exact this
    · rfl
section
variable {base by_ : Int} (hby : 0 ≤ by_)
include hby
theorem sg_inj {y z : Int} (h : base < y) : sg base by_ z = y + by_ ↔ z = y := by
  unfold sg; split <;> omega
theorem sg_inj2 {y z : Int} : sg base by_ z = sg base by_ y ↔ z = y := by
  unfold sg; split <;> split <;> omega
theorem con_sg {l : List Int} {y : Int} (h : base < y) : (l.map (sg base by_)).contains (y + by_) = l.contains y := by
  rw [Bool.eq_iff_iff]
  simp only [List.contains_iff_mem, List.mem_map, sg_inj hby h, exists_eq_right]
theorem used_sh {t : Tm} (h : base < t.x) (k : Nat) (wr : List Int) : (shT by_ t).used k (wr.map (sg base by_)) = t.used k wr := by
  unfold Tm.used shT
  rw [con_sg hby h]
theorem step_sg {la la' : Int → Nat} (hla : ∀ y, base < y → la' (y + by_) = la y) (k : Nat) (wr : List Int) {ts : List Tm} (ha : ∀ t ∈ ts, base < t.x) (x : Int) :
    numStep la' (base + by_) k (wr.map (sg base by_)) (ts.map (shT by_)) (sg base by_ x) = (numStep la base k wr ts x).map (shT by_) := by
  unfold numStep
  by_cases hx : base < x
  · have e1 : sg base by_ x = x + by_ := by unfold sg; rw [if_pos hx]
    have e2 : has (ts.map (shT by_)) (x + by_) = has ts x := by
      unfold has
      rw [List.any_map]
      refine congrArg (fun f => ts.any f) ?_
      funext t
      show (t.x + by_ == x + by_) = (t.x == x)
      rw [Bool.eq_iff_iff]; simp
    rw [e1, e2, show decide (x + by_ ≤ base + by_) = decide (x ≤ base) by simp]
    split
    · rfl
    · rw [List.map_append, List.map_cons, List.map_nil]
      congr 2
      have e3 : ((ts.map (shT by_)).filter (Tm.used · k (wr.map (sg base by_)))).map Tm.n = ((ts.filter (Tm.used · k wr)).map Tm.n).map (· + by_) := by
        rw [List.filter_map, List.map_map, List.map_map]
        have e4 : ts.filter ((Tm.used · k (wr.map (sg base by_))) ∘ shT by_) = ts.filter (Tm.used · k wr) := List.filter_congr (fun t ht => used_sh hby (ha t ht) k wr)
        rw [e4]
        rfl
      show (⟨x + by_, _, k, _⟩ : Tm) = ⟨x + by_, least base _ + by_, k, la x⟩
      rw [e3, hla x hx]
      unfold least
      rw [List.length_map, show base + by_ + 1 = base + 1 + by_ by omega, least_sg]
  · have e1 : sg base by_ x = x := by unfold sg; rw [if_neg hx]
    rw [e1, if_pos (by simp; left; omega), if_pos (by simp; left; omega)]
theorem fold_sg {la la' : Int → Nat} (hla : ∀ y, base < y → la' (y + by_) = la y) (k : Nat) (wr : List Int) : ∀ (l : List Int) {ts : List Tm}, (∀ t ∈ ts, base < t.x) →
    (l.map (sg base by_)).foldl (numStep la' (base + by_) k (wr.map (sg base by_))) (ts.map (shT by_)) = (l.foldl (numStep la base k wr) ts).map (shT by_)
  | [], _, _ => rfl
  | x :: l, ts, ha => by
    rw [List.map_cons, List.foldl_cons, step_sg hby hla k wr ha x, List.foldl_cons]
    refine fold_sg hla k wr l ?_
    intro t ht
    unfold numStep at ht
    split at ht
    · exact ha t ht
    · rename_i hn
      simp only [Bool.or_eq_true, decide_eq_true_eq, not_or] at hn
      rcases List.mem_append.1 ht with ht | ht
      · exact ha t ht
      · rw [List.mem_singleton.1 ht]; show base < x; omega
theorem from_sg {la la' : Int → Nat} (hla : ∀ y, base < y → la' (y + by_) = la y) : ∀ (l : Seg) (k : Nat) {ts : List Tm}, (∀ t ∈ ts, base < t.x) →
    numFrom la' (base + by_) k (l.map fun p => (p.1.map (sg base by_), p.2.map (sg base by_))) (ts.map (shT by_)) = (numFrom la base k l ts).map (shT by_)
  | [], _, _, _ => rfl
  | (rd, wr) :: l, k, ts, ha => by
    show numFrom la' (base + by_) (k + 1) _ ((wr.map (sg base by_)).foldl _ _) = _
    rw [fold_sg hby hla k wr wr ha]
    refine from_sg hla l (k + 1) ?_
    obtain ⟨ex, h1, h2⟩ := numStep_ext la base k wr wr ts
    rw [h1]
    intro t ht
    rcases List.mem_append.1 ht with ht | ht
    · exact ha t ht
    · exact (h2 t ht).2.2.1
theorem lastO_sg : ∀ (t : List In) (k : Nat) (f f' : Int → Option Nat), (∀ x ∈ t, rdOf (mvI base by_ x) = (rdOf x).map (sg base by_) ∧ wrOf (mvI base by_ x) = (wrOf x).map (sg base by_)) → (∀ y, base < y → f' (y + by_) = f y) →
    ∀ y, base < y → lastOFrom (base + by_) (t.map (mvI base by_)) k f' (y + by_) = lastOFrom base t k f y
  | [], _, _, _, _, h, y, hy => h y hy
  | x :: t, k, f, f', hm, h, y, hy => by
    refine lastO_sg t (k + 1) _ _ (fun z hz => hm z (List.mem_cons_of_mem _ hz)) (fun z hz => ?_) y hy
    unfold lastOG
    rw [(hm x List.mem_cons_self).1, (hm x List.mem_cons_self).2, ← List.map_append, con_sg hby hz, h z hz, show decide (base + by_ < z + by_) = decide (base < z) by simp]
theorem kd_sg {x : In} (hb : 0 ≤ base) (h : fo x = true) (h' : fo (mvI base by_ x) = true) (hp : (x.op = 19 ∨ x.op = 20) → x.ar ≤ base) :
    rdOf (mvI base by_ x) = (rdOf x).map (sg base by_) ∧ wrOf (mvI base by_ x) = (wrOf x).map (sg base by_) := by
  have pr : ∀ r a : Int, (if [sg base by_ r].contains (sg base by_ a) then [sg base by_ r] else [sg base by_ r, sg base by_ a]) = (if [r].contains a then [r] else [r, a]).map (sg base by_) := fun r a => by
    by_cases e : a = r
    · simp [e]
    · have e2 : ¬ sg base by_ a = sg base by_ r := fun h => e ((sg_inj2 hby).1 h)
      rw [if_neg (by simpa using e2), if_neg (by simpa using e)]; rfl
  have z0 : sg base by_ 0 = 0 := by unfold sg; rw [if_neg (by omega)]
  have hreg := fo_reg h'
  have f1 : ∀ u, fits u rOk x.r → fits u rOk (sg base by_ x.r) := fun u h1 => by
    cases u with
    | true =>
      rcases hreg.1 with h2 | h2
      · exact h2
      · exfalso
        have h3 : sg base by_ x.r = sg base by_ 0 := by rw [z0]; exact h2
        have h4 := (sg_inj2 hby).1 h3
        unfold fits at h1; simp only at h1; rw [h4] at h1; exact absurd h1 (by decide)
    | false => unfold fits at h1 ⊢; simp only at h1 ⊢; rw [h1, z0]
  have f2 : ∀ u, fits u aOk x.a → fits u aOk (sg base by_ x.a) := fun u h1 => by
    cases u with
    | true =>
      rcases hreg.2 with h2 | h2
      · exact h2
      · exfalso
        have h3 : sg base by_ x.a = sg base by_ 0 := by rw [z0]; exact h2
        have h4 := (sg_inj2 hby).1 h3
        unfold fits at h1; simp only at h1; rw [h4] at h1; exact absurd h1 (by decide)
    | false => unfold fits at h1 ⊢; simp only at h1 ⊢; rw [h1, z0]
  have e0 : ({ x with r := x.r, a := x.a } : In) = x := rfl
  rcases kinds h with h | h | h | h | h | h | h | h | h | ⟨h, hop, har⟩
  all_goals
    obtain ⟨_, hr, hw⟩ := h.ren (sg base by_ x.r) (sg base by_ x.a) (f1 _ h.r) (f2 _ h.a)
    obtain ⟨_, hr0, hw0⟩ := h.ren x.r x.a h.r h.a
    rw [e0] at hr0 hw0
    unfold mvI
    rw [hr, hw, hr0, hw0]
  all_goals refine ⟨?_, ?_⟩
  all_goals first | rfl | exact pr _ _ | skip
  have har2 := hp hop
  rw [List.map_map]
  refine List.map_congr_left fun i hi => ?_
  have := List.mem_range.1 hi
  show (i : Int) + 1 = sg base by_ ((i : Int) + 1)
  unfold sg; rw [if_neg (by omega)]
theorem nm_sg {ts : List Tm} (ha : ∀ t ∈ ts, base < t.x) (hn : ∀ t ∈ ts, base < t.n) (y : Int) : nm (ts.map (shT by_)) (sg base by_ y) = sg base by_ (nm ts y) := by
  unfold nm
  by_cases hy : base < y
  · have e1 : sg base by_ y = y + by_ := by unfold sg; rw [if_pos hy]
    have e2 : num? (ts.map (shT by_)) (y + by_) = (num? ts y).map (· + by_) := by
      unfold num?
      rw [List.find?_map, Option.map_map, Option.map_map]
      have e3 : ts.find? ((fun t => t.x == y + by_) ∘ shT by_) = ts.find? (fun t => t.x == y) := by
        refine congrArg (fun p => ts.find? p) ?_
        funext t
        show (t.x + by_ == y + by_) = (t.x == y)
        rw [Bool.eq_iff_iff]; simp
      rw [e3]; rfl
    rw [e1, e2]
    cases hq : num? ts y with
    | none => show y + by_ = sg base by_ y; rw [e1]
    | some n =>
      have : base < n := by
        unfold num? at hq
        cases hf : ts.find? (fun t => t.x == y) with
        | none => rw [hf] at hq; cases hq
        | some t => rw [hf] at hq; injection hq with hq; rw [← hq]; exact hn t (List.mem_of_find?_eq_some hf)
      show n + by_ = sg base by_ n
      unfold sg; rw [if_pos this]
  · have e1 : sg base by_ y = y := by unfold sg; rw [if_neg hy]
    rw [e1, num_low ha (by omega), num_low (base := base + by_) (fun t ht => by obtain ⟨u, hu, rfl⟩ := List.mem_map.1 ht; have := ha u hu; show base + by_ < u.x + by_; omega) (by omega)]
    exact e1.symm
theorem shift_plain {l : List In} (hv : validP l base = true) (hv2 : validP (movedP l base by_) (base + by_) = true) : assignP (movedP l base by_) (base + by_) = movedP (assignP l base) base by_ := by
  have hb0 := (valid_base hv).1
  have hm : ∀ x ∈ l, rdOf (mvI base by_ x) = (rdOf x).map (sg base by_) ∧ wrOf (mvI base by_ x) = (wrOf x).map (sg base by_) := fun x hx =>
    kd_sg hby hb0 (valid_fo (vl_of hv) x hx) (valid_fo (vl_of hv2) _ (List.mem_map.2 ⟨x, hx, rfl⟩)) (valid_ar (vl_of hv) x hx)
  have hseg : segOf (movedP l base by_) = (segOf l).map fun p => (p.1.map (sg base by_), p.2.map (sg base by_)) := by
    unfold segOf movedP
    rw [List.map_map, List.map_map]
    refine List.map_congr_left fun x hx => ?_
    show (rdOf (mvI base by_ x), wrOf (mvI base by_ x)) = _
    rw [(hm x hx).1, (hm x hx).2]; rfl
  have hla : ∀ y, base < y → laOf (movedP l base by_) (base + by_) (y + by_) = laOf l base y := fun y hy => by
    unfold laOf lastO movedP
    rw [lastO_sg hby l 0 (fun _ => none) (fun _ => none) hm (fun _ _ => rfl) y hy]
  have hts : tsOf (movedP l base by_) (base + by_) = (tsOf l base).map (shT by_) := by
    unfold tsOf
    rw [hseg]
    exact from_sg hby hla (segOf l) 0 (ts := []) (fun t ht => by cases ht)
  have ha : ∀ t ∈ tsOf l base, base < t.x := by
    obtain ⟨ex, h1, h2⟩ := numFrom_ext (laOf l base) base (segOf l) 0 []
    unfold tsOf; rw [h1]
    intro t ht
    exact (h2 t (by simpa using ht)).2.1
  have hn : ∀ t ∈ tsOf l base, base < t.n := numFrom_gt (segOf l) 0 [] (fun t ht => by cases ht)
  unfold assignP
  rw [if_pos hv, if_pos hv2, allocP_eq hv, allocP_eq hv2, hts]
  unfold movedP
  rw [List.map_map, List.map_map]
  refine List.map_congr_left fun x hx => ?_
  show renT ((tsOf l base).map (shT by_)) (mvI base by_ x) = mvI base by_ (renT (tsOf l base) x)
  unfold renT mvI
  simp only
  rw [nm_sg hby ha hn, nm_sg hby ha hn]
end
end Go.Proofs.Yteffpeokialeiaa
