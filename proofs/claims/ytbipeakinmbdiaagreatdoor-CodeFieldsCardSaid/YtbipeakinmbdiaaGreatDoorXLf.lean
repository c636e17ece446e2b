/-
  Law: unused fields, and fields that differ.
-/
import Derived.Test.YtbipeakinmbdiaaGreatDoorXLk
namespace Go.Proofs.YtbipeakinmbdiaaGreatDoor
open Go.RowKit

set_option maxRecDepth 100000 in
set_option maxHeartbeats 8000000 in
theorem law_fields (b : Bk) (A : Option Addr) (c : Nat) (at0 d : Int) (w : World) (hE : Env w) (ha : InsAt w w.heap.size A b.code.length b.code) (hc : CapOk A b.code.length c) (hz : b.code.length * 56 ≤ 140737488355328) (hs : ∀ y ∈ b.code, y.nm.size ≤ 140737488355328) (hat : 0 ≤ at0 ∧ at0 ≤ 65535) (hd : inR d) :
    Calls Tryz.prog 3 #[b.v A c, .int .u16 at0, .int .i64 d] w fun e w' => e = .returned (.bool true) ∧ Below w.heap.size w w' := by
  obtain ⟨n, hn⟩ : ∃ n, Hid (n = b.code.length) := ⟨_, rfl⟩
  obtain ⟨w1, hw1⟩ : ∃ X, Hid (X = w.alloc (.cells (bkC b A n c) 28)) := ⟨_, rfl⟩
  obtain ⟨p, hp⟩ : ∃ p, Hid (p = w.heap.size) := ⟨_, rfl⟩
  have HP := Lib.hid (show Blk w1 p 28 (bkC b A n c) by rw [hw1.out, hp.out]; exact Blk.new _ _ _)
  have HK := Lib.hid (show Below w.heap.size w w1 by rw [hw1.out]; exact bAlloc _ _)
  have HE := Lib.hid (hE.next HK.out)
  have HA := Lib.hid (ha.next HK.out)
  have HC := Lib.hid hc
  have HZ := Lib.hid hz
  have HAT := Lib.hid hat
  have HS := Lib.hid hs
  have HD := Lib.hid hd
  have HN3 := Lib.hid (show n ≤ 3000000000000 by rw [hn.out]; exact ha.1.2)
  unfold Bk.v
  rw [← hn.out]
  clear hE ha hc hz hat hs hd
  go_enter Tryz.func3, Tryz.ntmps3
  go_upto_region 1 with fail
  rw [← hw1.out, ← hp.out]
  clear hw1 hp
  have p8 := HP.out.cell 8
  have pl := HP.out.lt
  simp at p8
  obtain ⟨tn, htn⟩ : ∃ t, ((n : Int) == 0) = t := ⟨_, rfl⟩
  obtain ⟨td, htd⟩ : ∃ t, (d == 0) = t := ⟨_, rfl⟩
  cases hor : (tn || td)
  · obtain ⟨rfl, rfl⟩ : tn = false ∧ td = false := by simpa using hor
    clear hor
    have hn1 : 1 ≤ n := by have := ne_of_beq_false htn; omega
    have HD0 := Lib.hid (show d ≠ 0 from ne_of_beq_false htd)
    obtain ⟨m, hm⟩ : ∃ m : Nat, Hid ((m : Int) = at0) := ⟨at0.toNat, Lib.hid (by have := HAT.out; omega)⟩
    have HM := Lib.hid (show m ≤ 65535 by have := HAT.out; have := hm.out; omega)
    rw [← hm.out]
    have hcv : IntKind.wrap .i64 (m : Int) = (m : Int) := wrapI (by have := HM.out; omega)
    have htm : (m : Int).tmod (n : Int) = ((m % n : Nat) : Int) := by rw [Int.tmod_eq_emod_of_nonneg (by omega)]; omega
    have hkn : m % n < n := Nat.mod_lt _ hn1
    obtain ⟨k, hk⟩ : ∃ k, Hid (k = m % n) := ⟨_, rfl⟩
    rw [← hk.out] at htm hkn
    go_upto_region 4 with fail
    clear htn htd hcv htm p8 pl
    go_wp2_with fail
    go_loopw [8] (fun i wr => ∃ j : Nat, i = .int .i64 (j : Int) ∧ j ≤ 6 ∧ Hid (Below w1.heap.size w1 wr)) (fun i _ => 6 - (intOf i).toNat)
    case atStart => exact ⟨0, rfl, by omega, Lib.hid (Below.refl _ _)⟩
    case round =>
      obtain ⟨j, rfl, hj, HB⟩ := hrel
      by_cases hlt : j < 6
      · have hlj : decide ((j : Int) < 6) = true := decide_eq_true (by omega)
        have HPr := Lib.hid (HP.out.next HB.out)
        have HAr := Lib.hid (HA.out.next HB.out)
        have HEr := Lib.hid (HE.out.next HB.out)
        have hcl := clone_any b A c wr HAr.out HC.out HZ.out
        unfold Bk.v at hcl
        rw [← hn.out] at hcl
        have HCL := Lib.hid hcl
        clear hcl
        have t0 := HPr.out.cell 0
        have t1 := HPr.out.cell 1
        have t2 := HPr.out.cell 2
        have t3 := HPr.out.cell 3
        have t4 := HPr.out.cell 4
        have t5 := HPr.out.cell 5
        have t6 := HPr.out.cell 6
        have t7 := HPr.out.cell 7
        have t8 := HPr.out.cell 8
        have tl := HPr.out.lt
        simp at t0 t1 t2 t3 t4 t5 t6 t7 t8
        go_wp2_with fail
        refine HCL.out.mono ?_
        rintro e w2 ⟨A2, c2, rfl, ho, hb⟩
        obtain ⟨g, cp, e9⟩ := own_some2 ho (by rw [← hn.out]; exact hn1)
        injection e9 with e1 e2 e3
        clear e2
        subst e1 e3
        rw [show b.v (some ⟨g, 0, none⟩) c2 = .agg (bkC b (some ⟨g, 0, none⟩) n c2) by rw [hn.out]]
        rw [← hn.out] at ho
        have HO2 := Lib.hid ho
        have HB2 := Lib.hid hb
        clear ho hb t0 t1 t2 t3 t4 t5 t6 t7 t8 tl HCL
        go_upto_region 8 with fail
        obtain ⟨w3, hw3⟩ : ∃ X, Hid (X = w2.alloc (.cells (bkC b (some ⟨g, 0, none⟩) n c2) 28)) := ⟨_, rfl⟩
        obtain ⟨q, hq⟩ : ∃ X, Hid (X = w2.heap.size) := ⟨_, rfl⟩
        rw [← hw3.out, ← hq.out]
        have HQ3 := Lib.hid (show Blk w3 q 28 (bkC b (some ⟨g, 0, none⟩) n c2) by rw [hw3.out, hq.out]; exact Blk.new _ _ _)
        have HO3 := Lib.hid (show w3.ownsRow wr.heap.size 34 6 (.slice (some ⟨g, 0, none⟩) n c2) n (aCs b.code) by rw [hw3.out]; exact own_next HO2.out (bAlloc _ _))
        have HB3 := Lib.hid (show Below wr.heap.size wr w3 by rw [hw3.out]; exact HB2.out.alloc HB2.out.size _)
        have HGQ := Lib.hid (show wr.heap.size ≤ g ∧ g < q by have h1 := own_lt HO2.out (g := g) rfl; rw [hq.out]; exact h1)
        obtain ⟨x, hx⟩ : ∃ x, Hid (b.code[k]? = some x) := ⟨b.code[k]'(by rw [← hn.out]; exact hkn), Lib.hid (List.getElem?_eq_getElem _)⟩
        have HXS := Lib.hid (HS.out x (List.mem_of_getElem? hx.out))
        clear hw3 hq HO2 HB2
        have q8 := HQ3.out.cell 8
        have ql := HQ3.out.lt
        simp at q8
        go_upto_block 2 with fail
        clear q8 ql
        go_cut [11] from 38 to 212 (fun s11 wx => s11 = .bool (zerI j x) ∧ Hid (wx.ownsRow wr.heap.size 34 6 (.slice (some ⟨g, 0, none⟩) n c2) n (aCs (b.code.set k (chgI j x d))) ∧ Blk wx q 28 (bkC b (some ⟨g, 0, none⟩) n c2) ∧ Below wr.heap.size wr wx))
        case first =>
          have hkn6 : ∀ f, f < 6 → k * 6 + f < n * 6 := fun f hf => by omega
          obtain ⟨a0, a1, a2, a3, a4, a5⟩ := aCs_at hx.out
          have c0 := (HO3.out.cellAt (g := g) (k * 6) (hkn6 0 (by omega))).trans a0
          have c1 := (HO3.out.cellAt (g := g) (k * 6 + 1) (hkn6 1 (by omega))).trans a1
          have c2 := (HO3.out.cellAt (g := g) (k * 6 + 2) (hkn6 2 (by omega))).trans a2
          have c3 := (HO3.out.cellAt (g := g) (k * 6 + 3) (hkn6 3 (by omega))).trans a3
          have c4 := (HO3.out.cellAt (g := g) (k * 6 + 4) (hkn6 4 (by omega))).trans a4
          have c5 := (HO3.out.cellAt (g := g) (k * 6 + 5) (hkn6 5 (by omega))).trans a5
          obtain ⟨cs, hcs⟩ := own_ty HO3.out (g := g) rfl
          have f0 := frozen_of_row w3 g (k * 6) cs 34 hcs
          have f1 := frozen_of_row w3 g (k * 6 + 1) cs 34 hcs
          have f2 := frozen_of_row w3 g (k * 6 + 2) cs 34 hcs
          have f3 := frozen_of_row w3 g (k * 6 + 3) cs 34 hcs
          have f4 := frozen_of_row w3 g (k * 6 + 4) cs 34 hcs
          have f5 := frozen_of_row w3 g (k * 6 + 5) cs 34 hcs
          have gl : g < w3.heap.size := (Array.getElem?_eq_some_iff.1 hcs).1
          clear a0 a1 a2 a3 a4 a5 hcs hkn6
          have hxs := HXS.out
          obtain rfl | rfl | rfl | rfl | rfl | rfl : j = 0 ∨ j = 1 ∨ j = 2 ∨ j = 3 ∨ j = 4 ∨ j = 5 := by omega
          · refine fld0 _ c1 f1 ?_
            intro v38 v39 v40 v41 v42 v43 v44 v45 v46 v47 v48 v49 v50 v51 v52 v53 v54 v55 v56 v57 v58 v59 v60 v61 v62 v63 v64 v65 v66 v67 v68 v69 v70 v71 v72 v73 v74 v75 v76 v77 v78 v79 v80 v81 v82 v83 v84 v85 v86 v87 v88 v89 v90 v91 v92 v93 v94 v95 v96 v97 v98 v99 v100 v101 v102 v103 v104 v105 v106 v107 v108 v109 v110 v111 v112 v113 v114 v115 v116 v117 v118 v119 v120 v121 v122 v123 v124 v125 v126 v127 v128 v129 v130 v131 v132 v133 v134 v135 v136 v137 v138 v139 v140 v141 v142 v143 v144 v145 v146 v147 v148 v149 v150 v151 v152 v153 v154 v155 v156 v157 v158 v159 v160 v161 v162 v163 v164 v165 v166 v167 v168 v169 v170 v171 v172 v173 v174 v175 v176 v177 v178 v179 v180 v181 v182 v183 v184 v185 v186 v187 v188 v189 v190 v191 v192 v193 v194 v195 v196 v197 v198 v199 v200 v201 v202 v203 v204 v205 v206 v207 v208 v209 v210 v211 v212
            dsimp only
            go_wp2_with fail
            go_meet
            exact ⟨rfl, Lib.hid ⟨by
              have h := own_setAt (k := k * 6 + 1) HO3.out (.int .i64 (wrap64 (x.r + d)))
              rw [aCs_set1 (wrap64 (x.r + d)) hx.out] at h
              exact h, HQ3.out.far (by have := HGQ.out.2; show q ≠ g; omega) _, HB3.out.setCell HGQ.out.1 _⟩⟩
          · refine fld1 _ c2 f2 ?_
            intro v38 v39 v40 v41 v42 v43 v44 v45 v46 v47 v48 v49 v50 v51 v52 v53 v54 v55 v56 v57 v58 v59 v60 v61 v62 v63 v64 v65 v66 v67 v68 v69 v70 v71 v72 v73 v74 v75 v76 v77 v78 v79 v80 v81 v82 v83 v84 v85 v86 v87 v88 v89 v90 v91 v92 v93 v94 v95 v96 v97 v98 v99 v100 v101 v102 v103 v104 v105 v106 v107 v108 v109 v110 v111 v112 v113 v114 v115 v116 v117 v118 v119 v120 v121 v122 v123 v124 v125 v126 v127 v128 v129 v130 v131 v132 v133 v134 v135 v136 v137 v138 v139 v140 v141 v142 v143 v144 v145 v146 v147 v148 v149 v150 v151 v152 v153 v154 v155 v156 v157 v158 v159 v160 v161 v162 v163 v164 v165 v166 v167 v168 v169 v170 v171 v172 v173 v174 v175 v176 v177 v178 v179 v180 v181 v182 v183 v184 v185 v186 v187 v188 v189 v190 v191 v192 v193 v194 v195 v196 v197 v198 v199 v200 v201 v202 v203 v204 v205 v206 v207 v208 v209 v210 v211 v212
            dsimp only
            go_wp2_with fail
            go_meet
            exact ⟨rfl, Lib.hid ⟨by
              have h := own_setAt (k := k * 6 + 2) HO3.out (.int .i64 (wrap64 (x.a + d)))
              rw [aCs_set2 (wrap64 (x.a + d)) hx.out] at h
              exact h, HQ3.out.far (by have := HGQ.out.2; show q ≠ g; omega) _, HB3.out.setCell HGQ.out.1 _⟩⟩
          · refine fld2 _ c0 c3 f3 ?_
            intro v38 v39 v40 v41 v42 v43 v44 v45 v46 v47 v48 v49 v50 v51 v52 v53 v54 v55 v56 v57 v58 v59 v60 v61 v62 v63 v64 v65 v66 v67 v68 v69 v70 v71 v72 v73 v74 v75 v76 v77 v78 v79 v80 v81 v82 v83 v84 v85 v86 v87 v88 v89 v90 v91 v92 v93 v94 v95 v96 v97 v98 v99 v100 v101 v102 v103 v104 v105 v106 v107 v108 v109 v110 v111 v112 v113 v114 v115 v116 v117 v118 v119 v120 v121 v122 v123 v124 v125 v126 v127 v128 v129 v130 v131 v132 v133 v134 v135 v136 v137 v138 v139 v140 v141 v142 v143 v144 v145 v146 v147 v148 v149 v150 v151 v152 v153 v154 v155 v156 v157 v158 v159 v160 v161 v162 v163 v164 v165 v166 v167 v168 v169 v170 v171 v172 v173 v174 v175 v176 v177 v178 v179 v180 v181 v182 v183 v184 v185 v186 v187 v188 v189 v190 v191 v192 v193 v194 v195 v196 v197 v198 v199 v200 v201 v202 v203 v204 v205 v206 v207 v208 v209 v210 v211 v212
            dsimp only
            go_wp2_with fail
            go_meet
            exact ⟨rfl, Lib.hid ⟨by
              have h := own_setAt (k := k * 6 + 3) HO3.out (.int .i64 (wrap64 (x.n + d)))
              rw [aCs_set3 (wrap64 (x.n + d)) hx.out] at h
              exact h, HQ3.out.far (by have := HGQ.out.2; show q ≠ g; omega) _, HB3.out.setCell HGQ.out.1 _⟩⟩
          · refine fld3 _ c0 c4 f4 hxs ?_
            intro v38 v39 v40 v41 v42 v43 v44 v45 v46 v47 v48 v49 v50 v51 v52 v53 v54 v55 v56 v57 v58 v59 v60 v61 v62 v63 v64 v65 v66 v67 v68 v69 v70 v71 v72 v73 v74 v75 v76 v77 v78 v79 v80 v81 v82 v83 v84 v85 v86 v87 v88 v89 v90 v91 v92 v93 v94 v95 v96 v97 v98 v99 v100 v101 v102 v103 v104 v105 v106 v107 v108 v109 v110 v111 v112 v113 v114 v115 v116 v117 v118 v119 v120 v121 v122 v123 v124 v125 v126 v127 v128 v129 v130 v131 v132 v133 v134 v135 v136 v137 v138 v139 v140 v141 v142 v143 v144 v145 v146 v147 v148 v149 v150 v151 v152 v153 v154 v155 v156 v157 v158 v159 v160 v161 v162 v163 v164 v165 v166 v167 v168 v169 v170 v171 v172 v173 v174 v175 v176 v177 v178 v179 v180 v181 v182 v183 v184 v185 v186 v187 v188 v189 v190 v191 v192 v193 v194 v195 v196 v197 v198 v199 v200 v201 v202 v203 v204 v205 v206 v207 v208 v209 v210 v211 v212
            dsimp only
            go_wp2_with fail
            go_meet
            exact ⟨rfl, Lib.hid ⟨by
              have h := own_setAt (k := k * 6 + 4) HO3.out (.string (x.nm ++ ⟨#[120]⟩))
              rw [aCs_set4 (x.nm ++ ⟨#[120]⟩) hx.out] at h
              exact h, HQ3.out.far (by have := HGQ.out.2; show q ≠ g; omega) _, HB3.out.setCell HGQ.out.1 _⟩⟩
          · refine fld4 _ c0 c5 f5 ?_
            intro v38 v39 v40 v41 v42 v43 v44 v45 v46 v47 v48 v49 v50 v51 v52 v53 v54 v55 v56 v57 v58 v59 v60 v61 v62 v63 v64 v65 v66 v67 v68 v69 v70 v71 v72 v73 v74 v75 v76 v77 v78 v79 v80 v81 v82 v83 v84 v85 v86 v87 v88 v89 v90 v91 v92 v93 v94 v95 v96 v97 v98 v99 v100 v101 v102 v103 v104 v105 v106 v107 v108 v109 v110 v111 v112 v113 v114 v115 v116 v117 v118 v119 v120 v121 v122 v123 v124 v125 v126 v127 v128 v129 v130 v131 v132 v133 v134 v135 v136 v137 v138 v139 v140 v141 v142 v143 v144 v145 v146 v147 v148 v149 v150 v151 v152 v153 v154 v155 v156 v157 v158 v159 v160 v161 v162 v163 v164 v165 v166 v167 v168 v169 v170 v171 v172 v173 v174 v175 v176 v177 v178 v179 v180 v181 v182 v183 v184 v185 v186 v187 v188 v189 v190 v191 v192 v193 v194 v195 v196 v197 v198 v199 v200 v201 v202 v203 v204 v205 v206 v207 v208 v209 v210 v211 v212
            dsimp only
            go_wp2_with fail
            go_meet
            exact ⟨rfl, Lib.hid ⟨by
              have h := own_setAt (k := k * 6 + 5) HO3.out (.int .i64 (wrap64 (x.ar + d)))
              rw [aCs_set5 (wrap64 (x.ar + d)) hx.out] at h
              exact h, HQ3.out.far (by have := HGQ.out.2; show q ≠ g; omega) _, HB3.out.setCell HGQ.out.1 _⟩⟩
          · refine fld5 _ c0 f0 ?_
            intro v38 v39 v40 v41 v42 v43 v44 v45 v46 v47 v48 v49 v50 v51 v52 v53 v54 v55 v56 v57 v58 v59 v60 v61 v62 v63 v64 v65 v66 v67 v68 v69 v70 v71 v72 v73 v74 v75 v76 v77 v78 v79 v80 v81 v82 v83 v84 v85 v86 v87 v88 v89 v90 v91 v92 v93 v94 v95 v96 v97 v98 v99 v100 v101 v102 v103 v104 v105 v106 v107 v108 v109 v110 v111 v112 v113 v114 v115 v116 v117 v118 v119 v120 v121 v122 v123 v124 v125 v126 v127 v128 v129 v130 v131 v132 v133 v134 v135 v136 v137 v138 v139 v140 v141 v142 v143 v144 v145 v146 v147 v148 v149 v150 v151 v152 v153 v154 v155 v156 v157 v158 v159 v160 v161 v162 v163 v164 v165 v166 v167 v168 v169 v170 v171 v172 v173 v174 v175 v176 v177 v178 v179 v180 v181 v182 v183 v184 v185 v186 v187 v188 v189 v190 v191 v192 v193 v194 v195 v196 v197 v198 v199 v200 v201 v202 v203 v204 v205 v206 v207 v208 v209 v210 v211 v212
            dsimp only
            go_wp2_with fail
            go_meet
            exact ⟨rfl, Lib.hid ⟨by
              have h := own_setAt (k := k * 6) HO3.out (.int .i64 (wrap64 (x.op + d)))
              rw [aCs_set0 (wrap64 (x.op + d)) hx.out] at h
              exact h, HQ3.out.far (by have := HGQ.out.2; show q ≠ g; omega) _, HB3.out.setCell HGQ.out.1 _⟩⟩
        case rest =>
          obtain ⟨rfl, HH⟩ := hcut
          obtain ⟨z, hz⟩ : ∃ z, Hid (z = zerI j x) := ⟨_, rfl⟩
          obtain ⟨l, hl⟩ : ∃ l, Hid (l = b.code.set k (chgI j x d)) := ⟨_, rfl⟩
          rw [← hz.out]
          rw [← hl.out] at HH
          have HO4 := Lib.hid HH.out.1
          have HQ4 := Lib.hid HH.out.2.1
          have HB4 := Lib.hid HH.out.2.2
          have HLN := Lib.hid (show l.length = n by rw [hl.out, List.length_set, hn.out])
          have HI4 := Lib.hid (show InsAt wc wc.heap.size (some ⟨g, 0, none⟩) n l from own_ins' HO4.out (by have := HN3.out; omega))
          have HPc := Lib.hid (HPr.out.next HB4.out)
          have HAc := Lib.hid (HAr.out.next HB4.out)
          have HKc := Lib.hid (bNext HB.out HB4.out)
          have HNE := Lib.hid (show decide (b = { b with code := l }) = false by rw [hl.out]; exact decide_eq_false (ne_chg hx.out HD.out HD0.out))
          have HVA := Lib.hid (show z = true → vaP b = true → vaP { b with code := l } = false from fun h1 h2 => by rw [hl.out]; exact va_chg hx.out HD.out HD0.out (hz.out.symm.trans h1) h2)
          clear HH HO4 HB3 HO3 HQ3 HXS HGQ hx hz hl HB
          have hsm := same_any b { b with code := l } A (some ⟨g, 0, none⟩) c c2 wc HAc.out (by simp only; rw [HLN.out]; exact HI4.out)
          rw [HNE.out] at hsm
          unfold Bk.v at hsm
          simp only [HLN.out] at hsm
          rw [← hn.out] at hsm
          have HSM := Lib.hid hsm
          clear hsm
          obtain ⟨tv, htv⟩ : ∃ t, Hid (t = vaP b) := ⟨_, rfl⟩
          have t0 := HPc.out.cell 0
          have t1 := HPc.out.cell 1
          have t2 := HPc.out.cell 2
          have t3 := HPc.out.cell 3
          have t4 := HPc.out.cell 4
          have t5 := HPc.out.cell 5
          have t6 := HPc.out.cell 6
          have t7 := HPc.out.cell 7
          have t8 := HPc.out.cell 8
          have tl := HPc.out.lt
          simp at t0 t1 t2 t3 t4 t5 t6 t7 t8
          have s0 := HQ4.out.cell 0
          have s1 := HQ4.out.cell 1
          have s2 := HQ4.out.cell 2
          have s3 := HQ4.out.cell 3
          have s4 := HQ4.out.cell 4
          have s5 := HQ4.out.cell 5
          have s6 := HQ4.out.cell 6
          have s7 := HQ4.out.cell 7
          have s8 := HQ4.out.cell 8
          have sl := HQ4.out.lt
          simp at s0 s1 s2 s3 s4 s5 s6 s7 s8
          cases z
          · go_wp2_with fail
            refine HSM.out.mono ?_
            rintro e w5 ⟨rfl, hb5⟩
            have HB5 := Lib.hid (bNext HKc.out hb5)
            clear hb5 t0 t1 t2 t3 t4 t5 t6 t7 t8 tl s0 s1 s2 s3 s4 s5 s6 s7 s8 sl HSM
            go_wp2_with fail
            exact ⟨⟨j + 1, by go_num, by omega, HB5⟩, by simp only [intOf]; omega⟩
          · go_wp2_with fail
            refine HSM.out.mono ?_
            rintro e w5 ⟨rfl, hb5⟩
            have HB5 := Lib.hid (bNext HKc.out hb5)
            have HP5 := Lib.hid (HPc.out.next hb5)
            have HQ5 := Lib.hid (HQ4.out.next hb5)
            have HA5 := Lib.hid (HAc.out.next hb5)
            have HI5 := Lib.hid (HI4.out.next hb5)
            clear hb5 t0 t1 t2 t3 t4 t5 t6 t7 t8 tl s0 s1 s2 s3 s4 s5 s6 s7 s8 sl HSM
            have hcv := valid_any b A c w5 HA5.out
            unfold Bk.v at hcv
            rw [← hn.out, ← htv.out] at hcv
            have HCV := Lib.hid hcv
            clear hcv
            have t0 := HP5.out.cell 0
            have t1 := HP5.out.cell 1
            have t2 := HP5.out.cell 2
            have t3 := HP5.out.cell 3
            have t4 := HP5.out.cell 4
            have t5 := HP5.out.cell 5
            have t6 := HP5.out.cell 6
            have t7 := HP5.out.cell 7
            have t8 := HP5.out.cell 8
            have tl := HP5.out.lt
            simp at t0 t1 t2 t3 t4 t5 t6 t7 t8
            go_wp2_with fail
            refine HCV.out.mono ?_
            rintro e w6 ⟨rfl, hb6⟩
            have HB6 := Lib.hid (bNext HB5.out hb6)
            have HQ6 := Lib.hid (HQ5.out.next hb6)
            have HI6 := Lib.hid (HI5.out.next hb6)
            clear hb6 t0 t1 t2 t3 t4 t5 t6 t7 t8 tl HCV
            cases tv
            · go_wp2_with fail
              exact ⟨⟨j + 1, by go_num, by omega, HB6⟩, by simp only [intOf]; omega⟩
            · have hcw := valid_any { b with code := l } (some ⟨g, 0, none⟩) c2 w6 (by simp only; rw [HLN.out]; exact HI6.out)
              rw [HVA.out (by trivial) htv.out.symm] at hcw
              unfold Bk.v at hcw
              simp only [HLN.out] at hcw
              have HCW := Lib.hid hcw
              clear hcw
              have s0 := HQ6.out.cell 0
              have s1 := HQ6.out.cell 1
              have s2 := HQ6.out.cell 2
              have s3 := HQ6.out.cell 3
              have s4 := HQ6.out.cell 4
              have s5 := HQ6.out.cell 5
              have s6 := HQ6.out.cell 6
              have s7 := HQ6.out.cell 7
              have s8 := HQ6.out.cell 8
              have sl := HQ6.out.lt
              simp at s0 s1 s2 s3 s4 s5 s6 s7 s8
              go_wp2_with fail
              refine HCW.out.mono ?_
              rintro e w7 ⟨rfl, hb7⟩
              have HB7 := Lib.hid (bNext HB6.out hb7)
              clear hb7 s0 s1 s2 s3 s4 s5 s6 s7 s8 sl HCW
              go_wp2_with fail
              exact ⟨⟨j + 1, by go_num, by omega, HB7⟩, by simp only [intOf]; omega⟩
      · have hlj : decide ((j : Int) < 6) = false := decide_eq_false (by omega)
        have HEr := Lib.hid (HE.out.next HB.out)
        go_wp2_with fail
        refine (awake_any wr HEr.out).mono ?_
        rintro e w2 ⟨rfl, hb⟩
        have HB2 := Lib.hid (bNext HB.out hb)
        clear hb
        go_wp2_with fail
        go_ret
        exact ⟨rfl, bNext HK.out HB2.out⟩
  · have h9 : tn = true ∨ td = true := by simpa using hor
    clear hor
    have hor : tn = true ∨ (tn = false ∧ td = true) := by cases tn <;> simp_all
    clear h9
    rcases hor with rfl | ⟨rfl, rfl⟩
    · go_wp2_with fail
      refine (awake_any w1 HE.out).mono ?_
      rintro e w2 ⟨rfl, hb⟩
      have HB2 := Lib.hid (bNext HK.out hb)
      clear hb
      go_wp2_with fail
      go_ret
      exact ⟨rfl, HB2.out⟩
    · go_wp2_with fail
      refine (awake_any w1 HE.out).mono ?_
      rintro e w2 ⟨rfl, hb⟩
      have HB2 := Lib.hid (bNext HK.out hb)
      clear hb
      go_wp2_with fail
      go_ret
      exact ⟨rfl, HB2.out⟩
end Go.Proofs.YtbipeakinmbdiaaGreatDoor
