/- Ld: a part of the proof that each law of this seat answers true at every input. No condition. -/
import Derived.Test.YtjnkigaiogjfcaaDoorMa
set_option linter.unusedVariables false
set_option linter.unusedSimpArgs false
set_option maxRecDepth 20000
section
/- The law: what these make of what is right is right. -/
namespace Go.Proofs.YtjnkigaiogjfcaaDoor
open Go Go.Ev Go.X7 Go.Srt
set_option linter.unusedVariables false
set_option linter.unusedSimpArgs false
set_option maxRecDepth 20000

theorem ofX_ok' {s : S4} (h : s.ok) : (ofX s).ok := by
 unfold ofX
 split
 ·exact ⟨S4.zero_ok, trivial⟩
 ·exact ⟨h, trivial⟩
theorem right_of' (s : S4) : Rt (ofX s) := by
 unfold ofX
 split
 ·exact rt_0
 ·rename_i h
  exact rt_2 h
theorem ofX_size (s : S4) : (ofX s).size = 1 := by
 unfold ofX
 split <;> rfl
theorem few_sizes {l : List X} {d : Nat} (h : ∀ x ∈ l, Fit d x) (hl : l.length ≤ 4) (hd : d ≤ 3) : sizes l ≤ 1024 := by
 have h1 := sizes_le fun x hx => (h x hx).size
 have h2 := Nat.pow_le_pow_right (n := 4) (by omega) (show d + 1 ≤ 4 by omega)
 have h3 := Nat.mul_le_mul hl h2
 omega
theorem p7_RightT {x : X} (h : Rt x) (ho : x.ok) (hs : x.size ≤ 900000) (G : Heap) : E n_regex_Right [encX x] G = some (.ret (.bool true), G) := by
 have := p7_Right 900000 x hs (Nat.le_refl _) ho (encX x) (encX_nrm _) G
 rw [show rightX x = true from h] at this
 exact this
theorem law_RegexRight {L : List Int} {s : S4} (hL : ∀ n ∈ L, 0 ≤ n ∧ n ≤ 255) (hl : L.length ≤ 9223372036854775807) (hs : s.ok) : E n_law07_RegexRight [.vs (L.map (V.int .u8)), encS s] [] = some (.ret (.bool true), []) := by
 have aw := fun G => c7_awake G
 obtain ⟨l, hln, hf, few⟩ := c7_Few hL hl [.var s.cs]
 have hsz := few_sizes hf hln (Nat.le_refl _)
 have ls : oLoad true 4 [.var s.cs] (.ptr 0 0 0) = some (encS s) := by rw [oLoad_ptr]; rfl
 have key : ∀ (n i : Nat), l.length - i = n → i ≤ l.length → law07_RegexRight_l1 0 (.ptr 0 0 0) (.bool true) (.vs (encXs l)) (.int .i64 (i : Int)) [.var s.cs] = some (.ret (.bool true), []) := by
  intro n
  induction n with
  | zero =>
   intro i hn2 hi
   have h' : ¬ (i : Int) < (l.length : Int) := by omega
   have c1 := fun G => p7_Cat (H := G) (Sl.vs l) (by omega)
   have r1 := fun G => p7_RightT (right_cat fun x hx => (hf x hx).rt) (catX_ok fun x hx => (hf x hx).ok) (by have := catX_size l; omega) G
   have c2 := fun G => p7_Either (H := G) (Sl.vs l) (by omega) fun x hx => (hf x hx).ok
   have r2 := fun G => p7_RightT (right_either fun x hx => (hf x hx).rt) (eitherX_ok fun x hx => (hf x hx).ok) (by have := eitherX_size l; omega) G
   have c3 := fun G => p7_Of s G
   have r3 := fun G => p7_RightT (right_of' s) (ofX_ok' hs) (by rw [ofX_size]; omega) G
   rw [law07_RegexRight_l1_eq]
   simp (maxDischargeDepth := 9) only [Qah, Qab, Qbc, Qci, Qfm, Qfr, Qfc, Qdx, Qef, Qgc, Qcr, Qbp, decide_false, List.length_nil, Nat.le_refl, h', c1, r1, c2, r2, ls, c3, r3]
   rfl
  | succ n ih =>
   intro i hn2 hi
   have h : i < l.length := by omega
   have h' : (i : Int) < (l.length : Int) := by omega
   have w1 : IntKind.i64.wrap ((i : Int) + 1) = ((i + 1 : Nat) : Int) := by rw [wrap_i64 (by omega) (by omega)]; omega
   have hx := hf l[i] (List.getElem_mem h)
   have hxs : l[i].size ≤ 256 := by have := hx.size; simpa using this
   have i1 := idxX h .i64
   have r1 := fun G => p7_RightT hx.rt hx.ok (by omega) G
   have s1 := fun G => p7_Star l[i] G
   have r2 := fun G => p7_RightT (right_star hx.rt) (starX_ok hx.ok) (by have := starX_size l[i]; omega) G
   have k2 := ih (i + 1) (by omega) (by omega)
   rw [law07_RegexRight_l1_eq]
   simp (maxDischargeDepth := 9) only [Qah, Qab, Qbd, Qbc, Qci, Qfm, Qfr, Qfq, Qfu, Qfc, Qdx, Qef, Qfh, Qgc, Qcr, Qhi, Qbp, Qbg, Qbf, Qbo, decide_true, Bool.not_true, List.length_nil, oLoad_ptr, Nat.le_refl, h', i1, takeX, r1, s1, r2, w1, k2]
 have k := key l.length 0 rfl (Nat.zero_le _)
 simp only [Qam] at k
 rw [law07_RegexRight_E, law07_RegexRight_eq]
 simp (maxDischargeDepth := 9) only [Qah, Qag, Qab, Qbc, Qfu, Qgc, Qan, Qgo, Qgn, Qgs, Qfv, Bool.not_true, List.length_nil, Bool.and_true, aw, few, k]
end Go.Proofs.YtjnkigaiogjfcaaDoor
end

