/- La: a part of the proof that each law of this seat answers true at every input. No condition. -/
import Derived.Test.YtjnkigaiogjfcaaDoorTd
set_option linter.unusedVariables false
set_option linter.unusedSimpArgs false
set_option maxRecDepth 20000
section
/- What some become: the law's functions. -/
namespace Go.Proofs.YtjnkigaiogjfcaaDoor
open Go Go.Ev Go.X7 Go.Srt
set_option linter.unusedVariables false
set_option linter.unusedSimpArgs false
set_option maxRecDepth 20000

theorem oLit_v2 {sz : Nat} {z x y : V} (hx : x.cells.length = sz) (hs : scalL x.cells = true) (hc : x.nrm.clean = true) (hy : y.cells.length = sz) (ht : scalL y.cells = true) (hd : y.nrm.clean = true) : oLit sz 2 z [(0, x), (1, y)] = some (.vs [x.nrm, y.nrm]) := by
 rw [oLit_eq]
 simp [rLit, okParts, hx, hs, hc, hy, ht, hd, setAll, List.range, List.range.loop]
theorem lit2 (z : V) (x y : X) : oLit 6 2 z [(0, encX x), (1, encX y)] = some (.vs (encXs [x, y])) := by
 rw [oLit_v2 (by simp) (by simp) (by rw [encX_nrm]; exact encX_clean x) (by simp) (by simp) (by rw [encX_nrm]; exact encX_clean y), encX_nrm, encX_nrm]; rfl
theorem rng_uniq {s t : S4} {lo hi : Int} (h : S4.rng s lo hi) (g : S4.rng t lo hi) : s = t := S4.ext h.1 g.1 fun i hi => by rw [h.2 i hi, g.2 i hi]
theorem r1_Of' {s : S4} {lo hi : Int} (h : S4.rng s lo hi) (H : Heap) : E n_ref01_Of [.int .i64 lo, .int .i64 hi] H = some (.ret (encS s), H) := by
 obtain ⟨r, h1, h2⟩ := r1_Of lo hi H
 rw [rng_uniq h h1]; exact h2
theorem c7_letter {s : S4} {lo hi : Int} (h : S4.rng s lo hi) (H : Heap) : E n_law07_letter [.int .i64 lo, .int .i64 hi] H = some (.ret (encX (.mk 2 s [])), H) := by
 have o := fun G => r1_Of' h G
 have b := bXs 2 s
 rw [law07_letter_E, law07_letter_eq]
 simp (maxDischargeDepth := 9) only [Qah, Qag, Qab, Qcx, Qcz, Qan, Qgo, Qgn, Qgs, Qgy, Qdi, Qdo, Qdt, Qde, Qdd, Qdc, Qhh, Qhf, Qcr, Qcj, Qcn, Qfv, Qhi, Qgb, Qga, Qbe, Qbx, Qca, Qbt, Qdb, Qda, if_true, List.drop_zero, List.drop_succ_cons, List.length_cons, List.length_nil, Nat.zero_add, Option.bind_some, Option.map_some, Bool.and_true, List.append_nil, Nat.reduceAdd, oLoad_ptr, oStore_ptr, List.drop_nil, le_s, Nat.le_refl, Nat.zero_le, or_true, and_self, Nat.max_self, List.take_zero, List.take_succ_cons, o, b]
 rfl
end Go.Proofs.YtjnkigaiogjfcaaDoor
end

section
/- Awake. -/
namespace Go.Proofs.YtjnkigaiogjfcaaDoor
open Go Go.Ev Go.X7 Go.Srt
set_option linter.unusedVariables false
set_option linter.unusedSimpArgs false
set_option maxRecDepth 20000

def sA : S4 := ⟨0, 8589934592, 0, 0⟩
def sB : S4 := ⟨0, 17179869184, 0, 0⟩
theorem rngA : S4.rng sA 97 97 := ⟨by decide, by decide⟩
theorem rngB : S4.rng sB 98 98 := ⟨by decide, by decide⟩
abbrev xA : X := .mk 2 sA []
abbrev xB : X := .mk 2 sB []
def sAB : S4 := ⟨0, 25769803776, 0, 0⟩
abbrev xAB : X := .mk 2 sAB []
theorem eiAB : eitherX [xA, xB] = xAB := rfl
theorem rsA : sA.rs = [(97, 97)] := by decide +kernel
theorem rsAB : sAB.rs = [(97, 98)] := by decide +kernel
theorem it97 : Lib.itoa 97 = [57, 55] := by unfold Lib.itoa; rw [if_neg (by decide), show ((97 : Int)).toNat = 97 from rfl, dec_big (by decide), dec_small (by decide)]; rfl
theorem it98 : Lib.itoa 98 = [57, 56] := by unfold Lib.itoa; rw [if_neg (by decide), show ((98 : Int)).toNat = 98 from rfl, dec_big (by decide), dec_small (by decide)]; rfl
theorem txAB : txt xAB = [91, 57, 55, 45, 57, 56, 93] := by
 rw [txt, if_neg (by decide), if_neg (by decide), if_pos rfl, setTxt, rsAB]
 simp only [List.map_cons, List.map_nil, pieceR, it97, it98, commas]
 rfl
theorem txA : txt xA = [91, 57, 55, 45, 57, 55, 93] := by
 rw [txt, if_neg (by decide), if_neg (by decide), if_pos rfl, setTxt, rsA]
 simp only [List.map_cons, List.map_nil, pieceR, it97, commas]
 rfl
abbrev xAs : X := .mk 5 S4.zero [xA]
theorem stA : starX xA = xAs := rfl
theorem caA : catX [.mk 1 S4.zero [], xAs] = xAs := rfl
theorem txAs : txt xAs = [91, 57, 55, 45, 57, 55, 93, 42] := by
 rw [txt, if_neg (by decide), if_neg (by decide), if_neg (by decide), txts, txts, txA]
 rfl
theorem rAs : rightX xAs = true := by
 have e : ownR xAs = true := by
  rw [ownR_mk, if_neg (by simp), if_neg (by decide), if_neg (by decide), if_pos rfl]
  simp only [List.headD_cons, stA, sameX_self]
  rfl
 have e2 : ownR xA = true := by
  rw [ownR_mk, if_neg (by simp), if_neg (by decide), if_pos rfl]
  decide
 simp only [rightX, rightXs, e, e2, Bool.and_self]
theorem rE : rightX (.mk 3 S4.zero []) = false := by
 have e : ownR (.mk 3 S4.zero []) = false := by
  rw [ownR_mk, if_neg (by simp), if_neg (by decide), if_neg (by decide), if_neg (by decide), if_pos rfl]
  rfl
 simp only [rightX, rightXs, e, Bool.and_false]
set_option maxHeartbeats 1000000 in
theorem c7_awake (H : Heap) : E n_law07_awake [] H = some (.ret (.bool true), H) := by
 have la := fun G => c7_letter rngA G
 have lb := fun G => c7_letter rngB G
 have lt := fun z => lit2 z xA xB
 have ei := fun G => p7_Either (H := G) (Sl.vs [xA, xB]) (by decide) (fun x hx => by
  simp only [List.mem_cons, List.not_mem_nil, or_false] at hx
  rcases hx with rfl | rfl
  ·exact ⟨by decide, trivial⟩
  ·exact ⟨by decide, trivial⟩)
 rw [eiAB] at ei
 have st := fun G => p7_Star xA G
 rw [stA] at st
 have b1 := bXk 1
 have b3 := bXk 3
 have l2 : ∀ z, oLit 6 2 z [(0, .agg [.int .i64 1, .int .u64 0, .int .u64 0, .int .u64 0, .int .u64 0, .nils]), (1, encX xAs)] = some (.vs (encXs [.mk 1 S4.zero [], xAs])) := fun z => by
  rw [oLit_v2 (sz := 6) rfl rfl rfl (by simp) (by simp) (by rw [encX_nrm]; exact encX_clean _), encX_nrm]; rfl
 have ca := fun G => p7_Cat (H := G) (Sl.vs [.mk 1 S4.zero [], xAs]) (by decide)
 rw [caA] at ca
 have t1 := fun G => p7_Text (x := xAB) (by decide) ⟨by decide, trivial⟩ G
 have t2 := fun G => p7_Text (x := xAs) (by decide) ⟨by decide, ⟨by decide, trivial⟩, trivial⟩ G
 rw [txAB] at t1
 rw [txAs] at t2
 have r1 := fun G => p7_Right 900000 xAs (by decide) (Nat.le_refl _) ⟨by decide, ⟨by decide, trivial⟩, trivial⟩ (encX xAs) (encX_nrm _) G
 have r2 := fun G => p7_Right 900000 (.mk 3 S4.zero []) (by decide) (Nat.le_refl _) ⟨by decide, trivial⟩ (.agg [.int .i64 3, .int .u64 0, .int .u64 0, .int .u64 0, .int .u64 0, .nils]) rfl G
 rw [rAs] at r1
 rw [rE] at r2
 have o1 := fun G => p7_Of S4.zero G
 have o2 := fun G => p7_Of sA G
 have eo1 : ofX S4.zero = .mk 0 S4.zero [] := rfl
 have eo2 : ofX sA = xA := rfl
 rw [eo1] at o1
 rw [eo2] at o2
 have eA : encX xA = .agg [.int .i64 2, .int .u64 0, .int .u64 8589934592, .int .u64 0, .int .u64 0, .vs []] := rfl
 have eB : encX xB = .agg [.int .i64 2, .int .u64 0, .int .u64 17179869184, .int .u64 0, .int .u64 0, .vs []] := rfl
 have eAB : encX xAB = .agg [.int .i64 2, .int .u64 0, .int .u64 25769803776, .int .u64 0, .int .u64 0, .vs []] := rfl
 have eZ : encX (.mk 0 S4.zero []) = .agg [.int .i64 0, .int .u64 0, .int .u64 0, .int .u64 0, .int .u64 0, .vs []] := rfl
 have eS : encX xAs = .agg [.int .i64 5, .int .u64 0, .int .u64 0, .int .u64 0, .int .u64 0, .vs [.agg [.int .i64 2, .int .u64 0, .int .u64 8589934592, .int .u64 0, .int .u64 0, .vs []]]] := rfl
 have eSA : sA.cs = [.int .u64 0, .int .u64 8589934592, .int .u64 0, .int .u64 0] := rfl
 have eSZ : S4.zero.cs = [.int .u64 0, .int .u64 0, .int .u64 0, .int .u64 0] := rfl
 simp only [encS] at o1 o2
 rw [eSZ] at o1
 rw [eSA] at o2
 have eL : encXs [xA, xB] = [.agg [.int .i64 2, .int .u64 0, .int .u64 8589934592, .int .u64 0, .int .u64 0, .vs []], .agg [.int .i64 2, .int .u64 0, .int .u64 17179869184, .int .u64 0, .int .u64 0, .vs []]] := rfl
 have eL2 : encXs [.mk 1 S4.zero [], xAs] = [.agg [.int .i64 1, .int .u64 0, .int .u64 0, .int .u64 0, .int .u64 0, .vs []], .agg [.int .i64 5, .int .u64 0, .int .u64 0, .int .u64 0, .int .u64 0, .vs [.agg [.int .i64 2, .int .u64 0, .int .u64 8589934592, .int .u64 0, .int .u64 0, .vs []]]]] := rfl
 rw [eL] at lt ei
 rw [eL2] at l2 ca
 rw [eA] at la lt st o2
 rw [eB] at lb lt
 rw [eAB] at ei t1
 rw [eS] at st l2 ca t2 r1
 rw [eZ] at o1
 have bz : oBuildA [.int .u64 0, .int .u64 0, .int .u64 0, .int .u64 0] 1 [] = some (.agg [.int .u64 0, .int .u64 0, .int .u64 0, .int .u64 0]) := bS0
 rw [law07_awake_E, law07_awake_eq]
 simp (maxDischargeDepth := 9) only [Qah, Qag, Qab, Qci, Qfr, Qet, Qfu, Qeb, Qej, Qcx, Qcz, Qhj, Qgc, Qan, Qgo, Qgn, Qgs, Qgy, Qhc, Qdi, Qdt, Qde, Qdd, Qdc, Qhh, Qhf, Qcr, Qck, Qco, Qcj, Qcn, Qfv, Qhi, Qeu, decide_true, Bool.not_false, if_true, List.drop_zero, List.drop_succ_cons, List.length_cons, List.length_nil, Nat.zero_add, Bool.and_true, List.append_nil, Nat.reduceAdd, oLoad_ptr, oStore_ptr, List.drop_nil, lt_s, le_s, Nat.le_refl, Nat.lt_add_one, Nat.zero_le, or_true, and_true, and_self, Nat.max_self, List.take_zero, List.take_succ_cons, la, lb, lt, ei, st, b1, b3, l2, ca, t1, t2, r1, r2, o1, o2, bz]
end Go.Proofs.YtjnkigaiogjfcaaDoor
end

