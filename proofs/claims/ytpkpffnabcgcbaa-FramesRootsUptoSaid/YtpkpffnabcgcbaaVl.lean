/-
  Parts of the body of the law FramesViews: Allocate.
-/
import Derived.Test.YtpkpffnabcgcbaaVj
import Derived.Laws.OwnMore
namespace Go.Proofs.Ytpkpffnabcgcbaa
open Go.RowKit

/-- the first k of n cells are set -/
def mkC (n k : Nat) : List Cl := List.replicate k ⟨1, 0⟩ ++ List.replicate (n - k) ⟨0, 0⟩
theorem mk_len {n k : Nat} (h : k ≤ n) : (mkC n k).length = n := by unfold mkC; rw [List.length_append, List.length_replicate, List.length_replicate]; omega
theorem rep_cells (m : Nat) (a b : Int) : ∀ i, (cCs (List.replicate m ⟨a, b⟩))[i]? = if i < m * 2 then some (.int .i64 (if i % 2 = 0 then a else b)) else none := by
  induction m with
  | zero => intro i; simp [cCs]
  | succ m ih =>
    intro i
    rw [List.replicate_succ]
    match i with
    | 0 => simp [cCs]
    | 1 => simp [cCs]; omega
    | i + 2 =>
      simp only [cCs, List.getElem?_cons_succ]
      rw [ih i]
      have e : (i + 2) % 2 = i % 2 := by omega
      rw [e]
      by_cases h : i < m * 2
      · have h' : i + 2 < (m + 1) * 2 := by omega
        simp only [if_pos h, if_pos h']
      · have h' : ¬ i + 2 < (m + 1) * 2 := by omega
        simp only [if_neg h, if_neg h']
theorem mk_new (n : Nat) : (madeCells (Value.agg #[.int .i64 0, .int .i64 0]).cells (n * 2)).toList = cCs (mkC n 0) := by
  have e : mkC n 0 = List.replicate n ⟨0, 0⟩ := by simp [mkC]
  rw [e]
  refine List.ext_getElem? fun i => ?_
  rw [rep_cells, ite_self]
  by_cases h : i < n * 2
  · rw [if_pos h]
    have h1 : i < (madeCells (Value.agg #[.int .i64 0, .int .i64 0]).cells (n * 2)).toList.length := by simp [madeCells]; exact h
    rw [List.getElem?_eq_getElem h1]
    rcases Nat.mod_two_eq_zero_or_one i with h2 | h2 <;> simp [madeCells, Value.cells, h2]
  · rw [if_neg h]
    exact List.getElem?_eq_none (by simp [madeCells]; omega)
theorem mk_full (n : Nat) : mkC n n = List.replicate n ⟨1, 0⟩ := by simp [mkC]
theorem mk_set (n k : Nat) (h : k < n) : ((cCs (mkC n k)).set (k * 2) (.int .i64 1)).set (k * 2 + 1) (.int .i64 0) = cCs (mkC n (k + 1)) := by
  have e1 : cCs (mkC n k) = cCs (List.replicate k ⟨1, 0⟩) ++ (.int .i64 0 :: .int .i64 0 :: cCs (List.replicate (n - (k + 1)) ⟨0, 0⟩)) := by
    unfold mkC
    rw [cCs_app, show n - k = (n - (k + 1)) + 1 by omega, List.replicate_succ]; rfl
  have e2 : cCs (mkC n (k + 1)) = cCs (List.replicate k ⟨1, 0⟩) ++ (.int .i64 1 :: .int .i64 0 :: cCs (List.replicate (n - (k + 1)) ⟨0, 0⟩)) := by
    unfold mkC
    rw [List.replicate_succ', List.append_assoc, cCs_app]; rfl
  have e3 : (cCs (List.replicate k (⟨1, 0⟩ : Cl))).length = k * 2 := by rw [cCs_len, List.length_replicate]
  rw [e1, e2, List.set_append_right _ _ (by omega), e3, Nat.sub_self, List.set_cons_zero, List.set_append_right _ _ (by omega), e3, show k * 2 + 1 - k * 2 = 1 by omega]
  rfl
theorem own_far2 {w w2 : World} {e e' size size' n n' b b' : Nat} {v v' : Value} {xs xs' : List Value} (h : w.ownsRow b e size v n xs) (h' : w.ownsRow b' e' size' v' n' xs') (he : e ≠ e') (hg : w.grownBy w2 v'.ownBlock) : w2.ownsRow b e size v n xs :=
  own_stay h fun _ hgo => hg.block _ (h.lt _ hgo).2 fun e2 => own_apart h h' he hgo e2
theorem own_next {w w2 : World} {e size n b : Nat} {v : Value} {xs : List Value} (h : w.ownsRow b e size v n xs) (hb : Below w.heap.size w w2) : w2.ownsRow b e size v n xs :=
  own_stay h fun g hg => hb.block g (h.lt g hg).2
theorem rowIn_below {w w2 : World} {A : Option Addr} {xs : List Value} (h : RowIn w A xs) (hk : ∀ ad, A = some ad → ad.block < w.heap.size) (hb : Below w.heap.size w w2) : RowIn w2 A xs := fun ad ha j u hu => by
  refine (hb.cell (p := ad.add j) ?_).trans (h ad ha j u hu)
  have := hk ad ha
  unfold Addr.add
  split <;> exact this
set_option maxHeartbeats 8000000 in
set_option maxRecDepth 100000 in
theorem arm0 {l : List En} {yw : List Value} {n : Nat} {id pc : Int} {A9 : Option Addr} {c9 q8 q11 : Nat} {s0 s1 s2 s3 s4 s5 s6 s7 s10 s12 s13 : Value} {w : World} (Q : Exit → Act → World → Prop) (tl : List Value) (htl : tl.length = 278)
    (hn : n ≤ 4096) (hl : l.length ≤ 1000000000000) (hyw : yw.length = l.length) (hc9 : CapOk A9 l.length c9) (hin : RowIn w A9 (eCs l yw)) (hP : ∀ c (a : Act) d v w, Q (.panic c) (a.put d v) w → Q (.panic c) a w) (hbk : ∀ ad, A9 = some ad → ad.block < w.heap.size) (hone : ∀ u ∈ eCs l yw, u.oneCell' = true)
    (x1 : w.cell? ⟨q8, 1, none⟩ = some (.int .i64 (n : Int))) (x2 : w.cell? ⟨q8, 2, none⟩ = some (.int .i64 id)) (x3 : w.cell? ⟨q8, 3, none⟩ = some (.int .i64 pc)) (hq8 : q8 < w.heap.size)
    (hQ : ∀ g c gy w' tl', w'.ownsRow w.heap.size 54 4 (.slice (some ⟨g, 0, none⟩) (1 + l.length) c) (1 + l.length) ([.int .i64 0, .int .i64 id, .int .i64 pc, .slice (some ⟨gy, 0, none⟩) n n] ++ eCs l yw) → w'.ownsRow w.heap.size 38 2 (.slice (some ⟨gy, 0, none⟩) n n) n (cCs (List.replicate n ⟨1, 0⟩)) → Below w.heap.size w w' → tl'.length = 278 → Q .normal ⟨(s0 :: s1 :: s2 :: s3 :: s4 :: s5 :: s6 :: s7 :: .pointer (some ⟨q8, 0, none⟩) :: .slice A9 l.length c9 :: s10 :: .pointer (some ⟨q11, 0, none⟩) :: s12 :: .slice (some ⟨g, 0, none⟩) (1 + l.length) c :: tl').toArray, []⟩ w') :
    Code.wp Try.prog (cutAt (codeOf Try.f4) [true, true, true, true, false, true, false, false, true, false, false, true, true, true, true, true, true, true, false, true, false, true, false]) Q ⟨(s0 :: s1 :: s2 :: s3 :: s4 :: s5 :: s6 :: s7 :: .pointer (some ⟨q8, 0, none⟩) :: .slice A9 l.length c9 :: s10 :: .pointer (some ⟨q11, 0, none⟩) :: s12 :: s13 :: tl).toArray, []⟩ w := by
  conv => arg 2; whnf
  revert htl
  revert tl
  refine fun tl htl => all_of (P := fun tl => Code.wp Try.prog _ Q ⟨(s0 :: s1 :: s2 :: s3 :: s4 :: s5 :: s6 :: s7 :: .pointer (some ⟨q8, 0, none⟩) :: .slice A9 l.length c9 :: s10 :: .pointer (some ⟨q11, 0, none⟩) :: s12 :: s13 :: tl).toArray, []⟩ w) 278 ?_ tl htl
  intro u14 u15 u16 u17 u18 u19 u20 u21 u22 u23 u24 u25 u26 u27 u28 u29 u30 u31 u32 u33 u34 u35 u36 u37 u38 u39 u40 u41 u42 u43 u44 u45 u46 u47 u48 u49 u50 u51 u52 u53 u54 u55 u56 u57 u58 u59 u60 u61 u62 u63 u64 u65 u66 u67 u68 u69 u70 u71 u72 u73 u74 u75 u76 u77 u78 u79 u80 u81 u82 u83 u84 u85 u86 u87 u88 u89 u90 u91 u92 u93 u94 u95 u96 u97 u98 u99 u100 u101 u102 u103 u104 u105 u106 u107 u108 u109 u110 u111 u112 u113 u114 u115 u116 u117 u118 u119 u120 u121 u122 u123 u124 u125 u126 u127 u128 u129 u130 u131 u132 u133 u134 u135 u136 u137 u138 u139 u140 u141 u142 u143 u144 u145 u146 u147 u148 u149 u150 u151 u152 u153 u154 u155 u156 u157 u158 u159 u160 u161 u162 u163 u164 u165 u166 u167 u168 u169 u170 u171 u172 u173 u174 u175 u176 u177 u178 u179 u180 u181 u182 u183 u184 u185 u186 u187 u188 u189 u190 u191 u192 u193 u194 u195 u196 u197 u198 u199 u200 u201 u202 u203 u204 u205 u206 u207 u208 u209 u210 u211 u212 u213 u214 u215 u216 u217 u218 u219 u220 u221 u222 u223 u224 u225 u226 u227 u228 u229 u230 u231 u232 u233 u234 u235 u236 u237 u238 u239 u240 u241 u242 u243 u244 u245 u246 u247 u248 u249 u250 u251 u252 u253 u254 u255 u256 u257 u258 u259 u260 u261 u262 u263 u264 u265 u266 u267 u268 u269 u270 u271 u272 u273 u274 u275 u276 u277 u278 u279 u280 u281 u282 u283 u284 u285 u286 u287 u288 u289 u290 u291
  show Code.wp Try.prog _ Q ⟨List.toArray (s0 :: s1 :: s2 :: s3 :: s4 :: s5 :: s6 :: s7 :: .pointer (some ⟨q8, 0, none⟩) :: .slice A9 l.length c9 :: s10 :: .pointer (some ⟨q11, 0, none⟩) :: s12 :: s13 :: u14 :: u15 :: u16 :: u17 :: u18 :: u19 :: u20 :: u21 :: u22 :: u23 :: u24 :: u25 :: u26 :: u27 :: u28 :: u29 :: u30 :: u31 :: u32 :: u33 :: u34 :: u35 :: u36 :: u37 :: u38 :: u39 :: u40 :: u41 :: u42 :: u43 :: u44 :: u45 :: u46 :: u47 :: u48 :: u49 :: u50 :: u51 :: u52 :: u53 :: u54 :: u55 :: u56 :: u57 :: u58 :: u59 :: u60 :: u61 :: u62 :: u63 :: u64 :: u65 :: u66 :: u67 :: u68 :: u69 :: u70 :: u71 :: u72 :: u73 :: u74 :: u75 :: u76 :: u77 :: u78 :: u79 :: u80 :: u81 :: u82 :: u83 :: u84 :: u85 :: u86 :: u87 :: u88 :: u89 :: u90 :: u91 :: u92 :: u93 :: u94 :: u95 :: u96 :: u97 :: u98 :: u99 :: u100 :: u101 :: u102 :: u103 :: u104 :: u105 :: u106 :: u107 :: u108 :: u109 :: u110 :: u111 :: u112 :: u113 :: u114 :: u115 :: u116 :: u117 :: u118 :: u119 :: u120 :: u121 :: u122 :: u123 :: u124 :: u125 :: u126 :: u127 :: u128 :: u129 :: u130 :: u131 :: u132 :: u133 :: u134 :: u135 :: u136 :: u137 :: u138 :: u139 :: u140 :: u141 :: u142 :: u143 :: u144 :: u145 :: u146 :: u147 :: u148 :: u149 :: u150 :: u151 :: u152 :: u153 :: u154 :: u155 :: u156 :: u157 :: u158 :: u159 :: u160 :: u161 :: u162 :: u163 :: u164 :: u165 :: u166 :: u167 :: u168 :: u169 :: u170 :: u171 :: u172 :: u173 :: u174 :: u175 :: u176 :: u177 :: u178 :: u179 :: u180 :: u181 :: u182 :: u183 :: u184 :: u185 :: u186 :: u187 :: u188 :: u189 :: u190 :: u191 :: u192 :: u193 :: u194 :: u195 :: u196 :: u197 :: u198 :: u199 :: u200 :: u201 :: u202 :: u203 :: u204 :: u205 :: u206 :: u207 :: u208 :: u209 :: u210 :: u211 :: u212 :: u213 :: u214 :: u215 :: u216 :: u217 :: u218 :: u219 :: u220 :: u221 :: u222 :: u223 :: u224 :: u225 :: u226 :: u227 :: u228 :: u229 :: u230 :: u231 :: u232 :: u233 :: u234 :: u235 :: u236 :: u237 :: u238 :: u239 :: u240 :: u241 :: u242 :: u243 :: u244 :: u245 :: u246 :: u247 :: u248 :: u249 :: u250 :: u251 :: u252 :: u253 :: u254 :: u255 :: u256 :: u257 :: u258 :: u259 :: u260 :: u261 :: u262 :: u263 :: u264 :: u265 :: u266 :: u267 :: u268 :: u269 :: u270 :: u271 :: u272 :: u273 :: u274 :: u275 :: u276 :: u277 :: u278 :: u279 :: u280 :: u281 :: u282 :: u283 :: u284 :: u285 :: u286 :: u287 :: u288 :: u289 :: u290 :: u291 :: []), []⟩ w
  have HQ := Lib.hid hQ
  have HC9 := Lib.hid hc9
  have HIN := Lib.hid hin
  have HBK := Lib.hid hbk
  have HONE : Hid (∀ u ∈ eCs l yw, u.oneCell' = true) := Lib.hid hone
  obtain ⟨j1, hi1, hz1, hy1, hb1'⟩ := info_parts info54
  obtain ⟨j0, hi0, hz0, hy0, hb0⟩ := info_parts info38
  have HZ1 := Lib.hid hz1
  have HZ0 := Lib.hid hz0
  have g1 : decide ((n : Int) < 0) = false := decide_eq_false (by omega)
  have g2 : decide ((4096 : Int) < (n : Int)) = false := decide_eq_false (by omega)
  clear hQ hc9 hin hbk hone hz1 hz0
  go_upto_region 21 with fail
  obtain ⟨W1, HW1⟩ : ∃ X, Hid (X = w.drew) := ⟨_, Lib.hid rfl⟩
  have hd0 : Below w.heap.size w W1 := by rw [HW1.out]; exact bDrew w
  have hb8 : ∀ w2 : World, Below w.heap.size w w2 → (fun w' => w'.cell? ⟨q8, 1, none⟩ = some (.int .i64 (n : Int)) ∧ w'.cell? ⟨q8, 2, none⟩ = some (.int .i64 id) ∧ w'.cell? ⟨q8, 3, none⟩ = some (.int .i64 pc)) w2 := fun w2 hb => ⟨(hb.cell (p := ⟨q8, 1, none⟩) hq8).trans x1, (hb.cell (p := ⟨q8, 2, none⟩) hq8).trans x2, (hb.cell (p := ⟨q8, 3, none⟩) hq8).trans x3⟩
  have hS0 := hb8 _ hd0
  have hmk := run_makeSlice_full (w := W1) w.heap.size 26 38 j0 _ 2 Try.underlying26 hi0 HZ0.out hy0 .i64 .i64 n (by omega) (by rw [hb0]; omega) (by unfold maxLen; omega) hd0.size
  obtain ⟨w3, hmk, hrow, hgr⟩ := hmk
  obtain ⟨gy, hgy⟩ : ∃ g, Hid (g = W1.heap.size) := ⟨_, rfl⟩
  rw [← hgy.out] at hmk hrow
  have hb3 : Below w.heap.size w w3 := bNext hd0 (Below.grown (Below.refl _ _) hgr (Nat.le_refl _) (fun g e => by cases e))
  have HROW := Lib.hid hrow
  have HB3 := Lib.hid hb3
  have hS3 := hb8 _ hb3
  have HSB := Lib.hid hb8
  have HD0 := Lib.hid hd0
  clear hrow hgr hb3 hd0 hb8 x1 x2 x3
  refine wp_region_N (fun w' => w'.cell? ⟨q8, 1, none⟩ = some (.int .i64 (n : Int)) ∧ w'.cell? ⟨q8, 2, none⟩ = some (.int .i64 id) ∧ w'.cell? ⟨q8, 3, none⟩ = some (.int .i64 pc)) (fun _ => true) (by kernel_rfl) ?_
  rw [← HW1.out]
  clear HW1
  refine wpAnyN_take (i := 0) (v := ?v1) rfl (by kernel_rfl) (by kernel_rfl) (by kernel_rfl) (by kernel_rfl) (fun _ _ _ h => hP _ _ _ _ _ h) (Or.inl ⟨by rfl, ?hy1⟩) (by assumption) ?_
  case hy1 => intro w hSw; obtain ⟨a1, a2, a3⟩ := hSw; go_simp; try with_reducible rfl
  simp only [Act.put, List.getElem_toArray, List.getElem_cons_zero, List.setIfInBounds_toArray, List.set_cons_zero, List.set_cons_succ]
  refine wpAnyN_take (i := 1) (v := ?v2) rfl (by kernel_rfl) (by kernel_rfl) (by kernel_rfl) (by kernel_rfl) (fun _ _ _ h => hP _ _ _ _ _ h) (Or.inl ⟨by rfl, ?hy2⟩) (by assumption) ?_
  case hy2 => intro w hSw; obtain ⟨a1, a2, a3⟩ := hSw; go_simp; try with_reducible rfl
  simp only [Act.put, List.getElem_toArray, List.getElem_cons_zero, List.getElem_cons_succ, List.setIfInBounds_toArray, List.set_cons_zero, List.set_cons_succ]
  refine wpAnyN_take (i := 2) (v := ?v3) rfl (by kernel_rfl) (by kernel_rfl) (by kernel_rfl) (by kernel_rfl) (fun _ _ _ h => hP _ _ _ _ _ h) (Or.inl ⟨by rfl, ?hy3⟩) (by assumption) ?_
  case hy3 => intro w hSw; obtain ⟨a1, a2, a3⟩ := hSw; go_simp; try with_reducible rfl
  simp only [Act.put, List.getElem_toArray, List.getElem_cons_zero, List.getElem_cons_succ, List.setIfInBounds_toArray, List.set_cons_zero, List.set_cons_succ]
  refine wpAnyN_take (i := 3) (v := ?v4) rfl (by kernel_rfl) (by kernel_rfl) (by kernel_rfl) (by kernel_rfl) (fun _ _ _ h => hP _ _ _ _ _ h) (Or.inl ⟨by rfl, ?hy4⟩) (by assumption) ?_
  case hy4 => intro w hSw; obtain ⟨a1, a2, a3⟩ := hSw; go_simp; try with_reducible rfl
  simp only [Act.put, List.getElem_toArray, List.getElem_cons_zero, List.getElem_cons_succ, List.setIfInBounds_toArray, List.set_cons_zero, List.set_cons_succ]
  refine wpAnyN_take (i := 4) (v := ?v5) rfl (by kernel_rfl) (by kernel_rfl) (by kernel_rfl) (by kernel_rfl) (fun _ _ _ h => hP _ _ _ _ _ h) (Or.inl ⟨by rfl, ?hy5⟩) (by assumption) ?_
  case hy5 => intro w hSw; obtain ⟨a1, a2, a3⟩ := hSw; go_simp; try with_reducible rfl
  simp only [Act.put, List.getElem_toArray, List.getElem_cons_zero, List.getElem_cons_succ, List.setIfInBounds_toArray, List.set_cons_zero, List.set_cons_succ]
  refine wpAnyN_take (i := 5) (v := ?v6) rfl (by kernel_rfl) (by kernel_rfl) (by kernel_rfl) (by kernel_rfl) (fun _ _ _ h => hP _ _ _ _ _ h) (Or.inl ⟨by rfl, ?hy6⟩) (by assumption) ?_
  case hy6 => intro w hSw; obtain ⟨a1, a2, a3⟩ := hSw; go_simp; try with_reducible rfl
  simp only [Act.put, List.getElem_toArray, List.getElem_cons_zero, List.getElem_cons_succ, List.setIfInBounds_toArray, List.set_cons_zero, List.set_cons_succ]
  refine wpAnyN_take (i := 9) (v := ?v7) rfl (by kernel_rfl) (by kernel_rfl) (by kernel_rfl) (by kernel_rfl) (fun _ _ _ h => hP _ _ _ _ _ h) (Or.inl ⟨by rfl, ?hy7⟩) (by assumption) ?_
  case hy7 => intro w hSw; obtain ⟨a1, a2, a3⟩ := hSw; go_simp; try with_reducible rfl
  simp only [Act.put, List.getElem_toArray, List.getElem_cons_zero, List.getElem_cons_succ, List.setIfInBounds_toArray, List.set_cons_zero, List.set_cons_succ]
  refine wpAnyN_one (i := 6) (by kernel_rfl) rfl (fun K hK => ?_)
  simp only [List.getElem_toArray, List.getElem_cons_zero, List.getElem_cons_succ]
  go_simp
  refine hK _ _ (fun _ => hS3) ?_
  (try simp only [Act.put, List.setIfInBounds_toArray, List.set_cons_zero, List.set_cons_succ])
  refine wpAnyN_take (i := 7) (v := ?v8) rfl (by kernel_rfl) (by kernel_rfl) (by kernel_rfl) (by kernel_rfl) (fun _ _ _ h => hP _ _ _ _ _ h) (Or.inl ⟨by rfl, ?hy8⟩) (by assumption) ?_
  case hy8 => intro w hSw; obtain ⟨a1, a2, a3⟩ := hSw; go_simp; try with_reducible rfl
  simp only [Act.put, List.getElem_toArray, List.getElem_cons_zero, List.getElem_cons_succ, List.setIfInBounds_toArray, List.set_cons_zero, List.set_cons_succ]
  refine wpAnyN_one (i := 8) (by kernel_rfl) rfl (fun K hK => ?_)
  simp only [List.getElem_toArray, List.getElem_cons_zero, List.getElem_cons_succ]
  go_simp
  have hb4 : Below w.heap.size w (w3.alloc (.cells #[.int .i64 0, .int .i64 id, .int .i64 pc, .slice (some ⟨gy, 0, none⟩) n n] 54)) := bNext HB3.out (bAlloc _ _)
  have hS4 := HSB.out _ hb4
  have HB4 := Lib.hid hb4
  have HROW4 := Lib.hid (HROW.out.alloc (.cells #[.int .i64 0, .int .i64 id, .int .i64 pc, .slice (some ⟨gy, 0, none⟩) n n] 54))
  have HLIT := Lib.hid (World.ownsRow_lit (base := w.heap.size) w3 (e := 54) (size := 4) #[.int .i64 0, .int .i64 id, .int .i64 pc, .slice (some ⟨gy, 0, none⟩) n n] 1 HB3.out.size (by unfold maxLen; omega) rfl)
  have HIN4 := Lib.hid (show RowIn (w3.alloc (.cells #[.int .i64 0, .int .i64 id, .int .i64 pc, .slice (some ⟨gy, 0, none⟩) n n] 54)) A9 (eCs l yw) from rowIn_below HIN.out HBK.out hb4)
  clear hb4
  refine hK _ _ (fun _ => hS4) ?_
  (try simp only [Act.put, List.setIfInBounds_toArray, List.set_cons_zero, List.set_cons_succ])
  refine wpAnyN_one (i := 10) (by kernel_rfl) rfl (fun K hK => ?_)
  simp only [List.getElem_toArray, List.getElem_cons_zero, List.getElem_cons_succ]
  rw [if_pos (by rfl)]
  refine wp_append_src _ _ 22 rfl w.heap.size 54 j1 _ 4 48 Try.underlying22 hi1 HZ1.out hy1 hb1' rfl (by decide) _ 1 _ rfl HLIT.out A9 l.length c9 (eCs l yw) rfl HC9.out ?c1 ?c2 ?c3 ?c4 ?c5 HB4.out.size ?_
  case c1 => exact eCs_len _ _ hyw
  case c2 => exact fun ad ha => HIN4.out ad ha
  case c3 => exact HONE.out
  case c4 => unfold maxLen; omega
  case c5 => omega
  intro v5 w5 ho5 hg5 _
  have hb5 : Below w.heap.size w w5 := HB4.out.grown hg5 HB4.out.size (fun g e => (HLIT.out.lt g e).1)
  have hS5 := HSB.out _ hb5
  have HB5 := Lib.hid hb5
  have HROW5 := Lib.hid (own_far2 HROW4.out HLIT.out (by decide) hg5)
  have HO5 := Lib.hid ho5
  clear ho5 hg5 hb5
  refine hK _ _ (fun _ => hS5) ?_
  (try simp only [Act.put, List.setIfInBounds_toArray, List.set_cons_zero, List.set_cons_succ])
  refine wpAnyN_one (i := 11) (by kernel_rfl) rfl (fun K hK => ?_)
  simp only [List.getElem_toArray, List.getElem_cons_zero, List.getElem_cons_succ]
  go_simp
  refine hK _ _ (fun _ => hS5) ?_
  (try simp only [Act.put, List.setIfInBounds_toArray, List.set_cons_zero, List.set_cons_succ])
  refine wpAnyN_done (by kernel_rfl) ?_ _
  clear hS0 hS3 hS4 hS5
  have hmn : (madeCells (Value.agg #[.int .i64 0, .int .i64 0]).cells (n * 2)).toList = cCs (mkC n 0) := mk_new n
  have HR5 : Hid (w5.ownsRow w.heap.size 38 2 (.slice (some ⟨gy, 0, none⟩) n n) n (cCs (mkC n 0))) := Lib.hid (by rw [← hmn]; exact HROW5.out)
  clear hmn hmk
  obtain ⟨g5, c5, rfl⟩ := own_head HO5.out (by omega)
  have HSB2 := HO5.out.lt g5 rfl
  have cg : w5.cell? ⟨g5, 3, none⟩ = some (.slice (some ⟨gy, 0, none⟩) n n) := own_cell HO5.out (j := 3) rfl
  go_wp2_with fail
  refine wp_loop_ghost_k (fun f a wr => ∃ (k : Nat) (tl : List Value), a = ⟨(s0 :: s1 :: s2 :: s3 :: s4 :: s5 :: s6 :: s7 :: .pointer (some ⟨q8, 0, none⟩) :: .slice A9 l.length c9 :: s10 :: .pointer (some ⟨q11, 0, none⟩) :: s12 :: .slice (some ⟨g5, 0, none⟩) (1 + l.length) c5 :: tl).toArray, []⟩ ∧ f = n - k ∧ k ≤ n ∧ tl.length = 278 ∧ tl[73]? = some (.int .i64 (k : Int)) ∧ tl[72]? = some (.int .i64 (n : Int)) ∧ Hid (wr.ownsRow w.heap.size 54 4 (.slice (some ⟨g5, 0, none⟩) (1 + l.length) c5) (1 + l.length) ([.int .i64 0, .int .i64 id, .int .i64 pc, .slice (some ⟨gy, 0, none⟩) n n] ++ eCs l yw)) ∧ Hid (wr.ownsRow w.heap.size 38 2 (.slice (some ⟨gy, 0, none⟩) n n) n (cCs (mkC n k))) ∧ Hid (Below w.heap.size w wr)) n ?st fun f a wr hrel J Kr hJ hKr => ?rd
  case st => exact ⟨0, _, rfl, rfl, Nat.zero_le _, rfl, rfl, rfl, HO5, HR5, HB5⟩
  case rd =>
    obtain ⟨k, tl, rfl, rfl, hk, htl, ht1, ht2, HO, HR, HB⟩ := hrel
    have HJ := Lib.hid hJ
    clear hJ
    revert ht1 ht2
    revert htl
    revert tl
    refine fun tl htl => all_of (P := fun tl => tl[73]? = some (.int .i64 (k : Int)) → tl[72]? = some (.int .i64 (n : Int)) → Code.wp Try.prog _ _ ⟨(s0 :: s1 :: s2 :: s3 :: s4 :: s5 :: s6 :: s7 :: .pointer (some ⟨q8, 0, none⟩) :: .slice A9 l.length c9 :: s10 :: .pointer (some ⟨q11, 0, none⟩) :: s12 :: .slice (some ⟨g5, 0, none⟩) (1 + l.length) c5 :: tl).toArray, []⟩ wr) 278 ?_ tl htl
    intro u14 u15 u16 u17 u18 u19 u20 u21 u22 u23 u24 u25 u26 u27 u28 u29 u30 u31 u32 u33 u34 u35 u36 u37 u38 u39 u40 u41 u42 u43 u44 u45 u46 u47 u48 u49 u50 u51 u52 u53 u54 u55 u56 u57 u58 u59 u60 u61 u62 u63 u64 u65 u66 u67 u68 u69 u70 u71 u72 u73 u74 u75 u76 u77 u78 u79 u80 u81 u82 u83 u84 u85 u86 u87 u88 u89 u90 u91 u92 u93 u94 u95 u96 u97 u98 u99 u100 u101 u102 u103 u104 u105 u106 u107 u108 u109 u110 u111 u112 u113 u114 u115 u116 u117 u118 u119 u120 u121 u122 u123 u124 u125 u126 u127 u128 u129 u130 u131 u132 u133 u134 u135 u136 u137 u138 u139 u140 u141 u142 u143 u144 u145 u146 u147 u148 u149 u150 u151 u152 u153 u154 u155 u156 u157 u158 u159 u160 u161 u162 u163 u164 u165 u166 u167 u168 u169 u170 u171 u172 u173 u174 u175 u176 u177 u178 u179 u180 u181 u182 u183 u184 u185 u186 u187 u188 u189 u190 u191 u192 u193 u194 u195 u196 u197 u198 u199 u200 u201 u202 u203 u204 u205 u206 u207 u208 u209 u210 u211 u212 u213 u214 u215 u216 u217 u218 u219 u220 u221 u222 u223 u224 u225 u226 u227 u228 u229 u230 u231 u232 u233 u234 u235 u236 u237 u238 u239 u240 u241 u242 u243 u244 u245 u246 u247 u248 u249 u250 u251 u252 u253 u254 u255 u256 u257 u258 u259 u260 u261 u262 u263 u264 u265 u266 u267 u268 u269 u270 u271 u272 u273 u274 u275 u276 u277 u278 u279 u280 u281 u282 u283 u284 u285 u286 u287 u288 u289 u290 u291
    intro ht1 ht2
    have hu1 : some u87 = some (.int .i64 (k : Int)) := ht1
    have hu2 : some u86 = some (.int .i64 (n : Int)) := ht2
    clear ht1 ht2
    injection hu1 with hu1
    injection hu2 with hu2
    subst hu1 hu2
    show Code.wp Try.prog _ _ ⟨List.toArray (s0 :: s1 :: s2 :: s3 :: s4 :: s5 :: s6 :: s7 :: .pointer (some ⟨q8, 0, none⟩) :: .slice A9 l.length c9 :: s10 :: .pointer (some ⟨q11, 0, none⟩) :: s12 :: .slice (some ⟨g5, 0, none⟩) (1 + l.length) c5 :: u14 :: u15 :: u16 :: u17 :: u18 :: u19 :: u20 :: u21 :: u22 :: u23 :: u24 :: u25 :: u26 :: u27 :: u28 :: u29 :: u30 :: u31 :: u32 :: u33 :: u34 :: u35 :: u36 :: u37 :: u38 :: u39 :: u40 :: u41 :: u42 :: u43 :: u44 :: u45 :: u46 :: u47 :: u48 :: u49 :: u50 :: u51 :: u52 :: u53 :: u54 :: u55 :: u56 :: u57 :: u58 :: u59 :: u60 :: u61 :: u62 :: u63 :: u64 :: u65 :: u66 :: u67 :: u68 :: u69 :: u70 :: u71 :: u72 :: u73 :: u74 :: u75 :: u76 :: u77 :: u78 :: u79 :: u80 :: u81 :: u82 :: u83 :: u84 :: u85 :: .int .i64 (n : Int) :: .int .i64 (k : Int) :: u88 :: u89 :: u90 :: u91 :: u92 :: u93 :: u94 :: u95 :: u96 :: u97 :: u98 :: u99 :: u100 :: u101 :: u102 :: u103 :: u104 :: u105 :: u106 :: u107 :: u108 :: u109 :: u110 :: u111 :: u112 :: u113 :: u114 :: u115 :: u116 :: u117 :: u118 :: u119 :: u120 :: u121 :: u122 :: u123 :: u124 :: u125 :: u126 :: u127 :: u128 :: u129 :: u130 :: u131 :: u132 :: u133 :: u134 :: u135 :: u136 :: u137 :: u138 :: u139 :: u140 :: u141 :: u142 :: u143 :: u144 :: u145 :: u146 :: u147 :: u148 :: u149 :: u150 :: u151 :: u152 :: u153 :: u154 :: u155 :: u156 :: u157 :: u158 :: u159 :: u160 :: u161 :: u162 :: u163 :: u164 :: u165 :: u166 :: u167 :: u168 :: u169 :: u170 :: u171 :: u172 :: u173 :: u174 :: u175 :: u176 :: u177 :: u178 :: u179 :: u180 :: u181 :: u182 :: u183 :: u184 :: u185 :: u186 :: u187 :: u188 :: u189 :: u190 :: u191 :: u192 :: u193 :: u194 :: u195 :: u196 :: u197 :: u198 :: u199 :: u200 :: u201 :: u202 :: u203 :: u204 :: u205 :: u206 :: u207 :: u208 :: u209 :: u210 :: u211 :: u212 :: u213 :: u214 :: u215 :: u216 :: u217 :: u218 :: u219 :: u220 :: u221 :: u222 :: u223 :: u224 :: u225 :: u226 :: u227 :: u228 :: u229 :: u230 :: u231 :: u232 :: u233 :: u234 :: u235 :: u236 :: u237 :: u238 :: u239 :: u240 :: u241 :: u242 :: u243 :: u244 :: u245 :: u246 :: u247 :: u248 :: u249 :: u250 :: u251 :: u252 :: u253 :: u254 :: u255 :: u256 :: u257 :: u258 :: u259 :: u260 :: u261 :: u262 :: u263 :: u264 :: u265 :: u266 :: u267 :: u268 :: u269 :: u270 :: u271 :: u272 :: u273 :: u274 :: u275 :: u276 :: u277 :: u278 :: u279 :: u280 :: u281 :: u282 :: u283 :: u284 :: u285 :: u286 :: u287 :: u288 :: u289 :: u290 :: u291 :: []), []⟩ wr
    have cg : wr.cell? ⟨g5, 3, none⟩ = some (.slice (some ⟨gy, 0, none⟩) n n) := own_cell HO.out (j := 3) rfl
    by_cases hkn : k < n
    · have gl : (0 : Int) < 1 + (l.length : Int) := by omega
      go_upto_region 25 with fail
      obtain ⟨W6, HW6⟩ : ∃ X, Hid (X = wr.drew) := ⟨_, Lib.hid rfl⟩
      have hd6 : Below wr.heap.size wr W6 := by rw [HW6.out]; exact bDrew wr
      have HO6 := Lib.hid (own_next HO.out hd6)
      have HR6 := Lib.hid (own_next HR.out hd6)
      have HB6 := Lib.hid (bNext HB.out hd6)
      have hS6 : (fun w' => w'.cell? ⟨g5, 3, none⟩ = some (.slice (some ⟨gy, 0, none⟩) n n)) W6 := own_cell HO6.out (j := 3) rfl
      clear hd6 cg
      refine wp_region_N (fun w' => w'.cell? ⟨g5, 3, none⟩ = some (.slice (some ⟨gy, 0, none⟩) n n)) (fun _ => true) (by kernel_rfl) ?_
      rw [← HW6.out]
      clear HW6
      refine wpAnyN_take (i := 0) (v := ?v9) rfl (by kernel_rfl) (by kernel_rfl) (by kernel_rfl) (by kernel_rfl) (fun _ _ _ h => hP _ _ _ _ _ h) (Or.inl ⟨by rfl, ?hy9⟩) (by assumption) ?_
      case hy9 => intro w hSw; have e3 := hSw; go_simp; try with_reducible rfl
      simp only [Act.put, List.getElem_toArray, List.getElem_cons_zero, List.setIfInBounds_toArray, List.set_cons_zero, List.set_cons_succ]
      refine wpAnyN_take (i := 1) (v := ?v10) rfl (by kernel_rfl) (by kernel_rfl) (by kernel_rfl) (by kernel_rfl) (fun _ _ _ h => hP _ _ _ _ _ h) (Or.inl ⟨by rfl, ?hy10⟩) (by assumption) ?_
      case hy10 => intro w hSw; have e3 := hSw; go_simp; try with_reducible rfl
      simp only [Act.put, List.getElem_toArray, List.getElem_cons_zero, List.getElem_cons_succ, List.setIfInBounds_toArray, List.set_cons_zero, List.set_cons_succ]
      refine wpAnyN_take (i := 2) (v := ?v11) rfl (by kernel_rfl) (by kernel_rfl) (by kernel_rfl) (by kernel_rfl) (fun _ _ _ h => hP _ _ _ _ _ h) (Or.inl ⟨by rfl, ?hy11⟩) (by assumption) ?_
      case hy11 => intro w hSw; have e3 := hSw; go_simp; try with_reducible rfl
      simp only [Act.put, List.getElem_toArray, List.getElem_cons_zero, List.getElem_cons_succ, List.setIfInBounds_toArray, List.set_cons_zero, List.set_cons_succ]
      refine wpAnyN_take (i := 3) (v := ?v12) rfl (by kernel_rfl) (by kernel_rfl) (by kernel_rfl) (by kernel_rfl) (fun _ _ _ h => hP _ _ _ _ _ h) (Or.inl ⟨by rfl, ?hy12⟩) (by assumption) ?_
      case hy12 => intro w hSw; have e3 := hSw; go_simp; try with_reducible rfl
      simp only [Act.put, List.getElem_toArray, List.getElem_cons_zero, List.getElem_cons_succ, List.setIfInBounds_toArray, List.set_cons_zero, List.set_cons_succ]
      refine wpAnyN_take (i := 4) (v := ?v13) rfl (by kernel_rfl) (by kernel_rfl) (by kernel_rfl) (by kernel_rfl) (fun _ _ _ h => hP _ _ _ _ _ h) (Or.inl ⟨by rfl, ?hy13⟩) (by assumption) ?_
      case hy13 => intro w hSw; have e3 := hSw; go_simp; try with_reducible rfl
      simp only [Act.put, List.getElem_toArray, List.getElem_cons_zero, List.getElem_cons_succ, List.setIfInBounds_toArray, List.set_cons_zero, List.set_cons_succ]
      refine wpAnyN_one (i := 5) (by kernel_rfl) rfl (fun K hK => ?_)
      simp only [List.getElem_toArray, List.getElem_cons_zero, List.getElem_cons_succ]
      go_simp
      refine (cell_any 0 W6).mono ?_
      rintro e w7 ⟨rfl, hb7⟩
      have HO7 := Lib.hid (own_next HO6.out hb7)
      have HR7 := Lib.hid (own_next HR6.out hb7)
      have HB7 := Lib.hid (bNext HB6.out hb7)
      have hS7 : (fun w' => w'.cell? ⟨g5, 3, none⟩ = some (.slice (some ⟨gy, 0, none⟩) n n)) w7 := own_cell HO7.out (j := 3) rfl
      clear hb7
      refine hK _ _ (fun _ => hS7) ?_
      (try simp only [Act.put, List.setIfInBounds_toArray, List.set_cons_zero, List.set_cons_succ])
      refine wpAnyN_take (i := 6) (v := ?v14) rfl (by kernel_rfl) (by kernel_rfl) (by kernel_rfl) (by kernel_rfl) (fun _ _ _ h => hP _ _ _ _ _ h) (Or.inl ⟨by rfl, ?hy14⟩) (by assumption) ?_
      case hy14 => intro w hSw; have e3 := hSw; go_simp; try with_reducible rfl
      simp only [Act.put, List.getElem_toArray, List.getElem_cons_zero, List.getElem_cons_succ, List.setIfInBounds_toArray, List.set_cons_zero, List.set_cons_succ]
      refine wpAnyN_one (i := 7) (by kernel_rfl) rfl (fun K hK => ?_)
      simp only [List.getElem_toArray, List.getElem_cons_zero, List.getElem_cons_succ]
      have hc0 : w7.cell? ⟨gy, k * 2, none⟩ = _ := HR7.out.cellAt (k * 2) (by omega)
      have hc1 : w7.cell? ⟨gy, k * 2 + 1, none⟩ = _ := HR7.out.cellAt (k * 2 + 1) (by omega)
      have hf0 : w7.frozen? ⟨gy, k * 2, none⟩ = false := HR7.out.frozenAt _
      have hf1 : w7.frozen? ⟨gy, k * 2 + 1, none⟩ = false := HR7.out.frozenAt _
      rw [List.getElem?_eq_getElem (by rw [cCs_len, mk_len (by omega)]; omega)] at hc0 hc1
      obtain ⟨o1, g1⟩ := HR7.out.stored (k * 2) (.int .i64 1)
      obtain ⟨o2, g2⟩ := o1.stored (k * 2 + 1) (.int .i64 0)
      rw [mk_set n k (by omega)] at o2
      have gg := g1.trans g2
      have HR8 := Lib.hid o2
      have HO8 := Lib.hid (own_far2 HO7.out HR7.out (by decide) gg)
      have HB8 := Lib.hid (HB7.out.grown gg HB7.out.size (fun g e => (HR7.out.lt g e).1))
      have hS8 : (fun w' => w'.cell? ⟨g5, 3, none⟩ = some (.slice (some ⟨gy, 0, none⟩) n n)) ((w7.setCell ⟨gy, k * 2, none⟩ (.int .i64 1)).setCell ⟨gy, k * 2 + 1, none⟩ (.int .i64 0)) := own_cell HO8.out (j := 3) rfl
      clear o1 g1 o2 g2 gg
      go_simp
      refine hK _ _ (fun _ => hS8) ?_
      (try simp only [Act.put, List.setIfInBounds_toArray, List.set_cons_zero, List.set_cons_succ])
      refine wpAnyN_done (by kernel_rfl) ?_ _
      clear hS6 hS7 hS8
      go_wp2_with fail
      exact Handed.intro (n - (k + 1)) (by omega) (HJ.out _ _ _ ⟨k + 1, _, rfl, rfl, by omega, rfl, by go_num, rfl, HO8, HR8, HB8⟩)
    · obtain rfl : k = n := by omega
      have HRE : Hid (wr.ownsRow w.heap.size 38 2 (.slice (some ⟨gy, 0, none⟩) k k) k (cCs (List.replicate k ⟨1, 0⟩))) := Lib.hid (by rw [← mk_full k]; exact HR.out)
      go_wp2_with fail
      exact HQ.out _ _ _ _ _ HO.out HRE.out HB.out rfl
end Go.Proofs.Ytpkpffnabcgcbaa
