/- Ta: a part of the proof that each law of this seat answers true at every input. No condition. -/
import Derived.Test.YthcjjicplodhjaaDoorHint
import Derived.Test.YthcjjicplodhjaaDoorFns
import Derived.Test.YthcjjicplodhjaaDoorEvH
import Derived.Test.YthcjjicplodhjaaDoorEnc
import Derived.Test.YthcjjicplodhjaaDoorTe
set_option linter.unusedVariables false
set_option linter.unusedSimpArgs false
set_option maxRecDepth 20000
section
/- Names, and texts whose letters are alike: the teller and the document. -/
namespace Go.Proofs.YthcjjicplodhjaaDoor
open Go Go.Ev
set_option linter.unusedVariables false
set_option linter.unusedSimpArgs false

theorem str_at {s : List UInt8} {i : Nat} (h : i < s.length) (k : IntKind) : oIndexStr (.str s) (.int k (i : Int)) = some (.int .u8 s[i].toNat) :=
  oIndexStr_at (by omega) (by simp [h])
theorem wrap_in {i n : Nat} (h : i < n) (hn : n ≤ 9223372036854775807) : IntKind.i64.wrap ((i : Int) + 1) = ((i + 1 : Nat) : Int) := by
  rw [wrap_i64 (by omega) (by omega)]; omega
theorem drop_at {s : List UInt8} {i : Nat} (h : i < s.length) : s.drop i = s[i] :: s.drop (i + 1) := List.drop_eq_getElem_cons h

end Go.Proofs.YthcjjicplodhjaaDoor
end

section
/- Names, and texts whose letters are alike: the teller. -/
namespace Go.Proofs.YthcjjicplodhjaaDoor
open Go Go.Ev
set_option linter.unusedVariables false
set_option linter.unusedSimpArgs false

theorem idxB_mem (c : UInt8) : ∀ s : List UInt8, 0 ≤ idxB s (c.toNat : Int) ↔ c ∈ s
  | [] => by simp [idxB]
  | a :: s => by
    have ih := idxB_mem c s
    have he : ((a.toNat : Int) = (c.toNat : Int)) ↔ c = a := by
      rw [show ((a.toNat : Int) = (c.toNat : Int)) ↔ a.toNat = c.toNat by omega, UInt8.toNat_inj]
      exact eq_comm
    unfold idxB
    rw [List.mem_cons, ← ih]
    by_cases h : (a.toNat : Int) = (c.toNat : Int)
    · rw [if_pos h]; simp [he.1 h]
    · rw [if_neg h]
      have hne : ¬ c = a := fun x => h (he.2 x)
      by_cases hn : idxB s (c.toNat : Int) < 0
      · rw [if_pos hn]; simp [hne]; omega
      · rw [if_neg hn]; simp [hne]; omega
theorem i4_IndexByte (s : List UInt8) (c : UInt8) (H : Heap) : E n_strings_IndexByte [.str s, .int .u8 c.toNat] H = some (.ret (.int .i64 (idxB s c.toNat)), H) := by
  rw [show E = EV Tryd.prog hint D from rfl, EV_intr (g := iIndexByte) rfl]
  have hc := c.toNat_lt
  exact if_pos ⟨by omega, by omega⟩
theorem mem_letters (c : UInt8) : c ∈ ([97, 98, 99, 100, 101, 102, 103, 104, 105, 106, 107, 108, 109, 110, 111, 112, 113, 114, 115, 116, 117, 118, 119, 120, 121, 122] : List UInt8) ↔ Te.letter c = true := by
  simp only [List.mem_cons, List.not_mem_nil, or_false, ← UInt8.toNat_inj, Te.letter, Bool.and_eq_true, decide_eq_true_eq]
  simp only [UInt8.reduceToNat]
  omega
theorem mem_parts (c : UInt8) : c ∈ ([97, 98, 99, 100, 101, 102, 103, 104, 105, 106, 107, 108, 109, 110, 111, 112, 113, 114, 115, 116, 117, 118, 119, 120, 121, 122, 48, 49, 50, 51, 52, 53, 54, 55, 56, 57, 45] : List UInt8) ↔ Te.part c = true := by
  simp only [List.mem_cons, List.not_mem_nil, or_false, ← UInt8.toNat_inj, Te.part, Te.letter, Te.digit, Bool.and_eq_true, Bool.or_eq_true, decide_eq_true_eq, beq_iff_eq]
  simp only [UInt8.reduceToNat]
  omega
theorem c4_plain_l {s q : List UInt8} (hs : s.length ≤ 9223372036854775807) {H : Heap} : ∀ (m i : Nat), s.length - i = m → i ≤ s.length →
    teller_plain_l1 H.length (.str s) (.str q) (.int .i64 s.length) (.int .i64 i) H = some (.ret (.bool ((s.drop i).all fun c => decide (c ∈ q))), H)
  | m, i, hm, hi => by
    rw [teller_plain_l1_eq]
    by_cases h : i < s.length
    · have h' : (i : Int) < (s.length : Int) := by omega
      obtain ⟨m, rfl⟩ : ∃ k, m = k + 1 := ⟨m - 1, by omega⟩
      have ih := c4_plain_l (q := q) hs (H := H) m (i + 1) (by omega) (by omega)
      rw [drop_at h, List.all_cons]
      by_cases h1 : s[i] ∈ q
      · have h2 : ¬ idxB q (s[i].toNat : Int) < 0 := by have := (idxB_mem s[i] q).2 h1; omega
        rw [decide_eq_true h1]
        simp (maxDischargeDepth := 9) only [Qah, Qab, Qbe, Qbd, Qea, Qei, Qda, Qgf, decide_true, decide_false, Bool.true_and, h', str_at h, i4_IndexByte, h2, wrap_in h hs, ih]
      · have h2 : idxB q (s[i].toNat : Int) < 0 := by have := mt (idxB_mem s[i] q).1 h1; omega
        rw [decide_eq_false h1]
        simp (maxDischargeDepth := 9) only [Qah, Qab, Qbe, Qea, Qei, Qda, Qgf, decide_true, Bool.false_and, h', str_at h, i4_IndexByte, h2]
    · have h' : ¬ (i : Int) < (s.length : Int) := by omega
      rw [List.drop_of_length_le (by omega)]
      simp (maxDischargeDepth := 9) only [Qah, Qbd, Qea, Qei, Qda, Qgf, decide_false, h', List.all_nil]
theorem c4_plain {s q : List UInt8} (hs : s.length ≤ 9223372036854775807) (H : Heap) : E n_teller_plain [.str s, .str q] H = some (.ret (.bool (s.all fun c => decide (c ∈ q))), H) := by
  rw [teller_plain_E, teller_plain_eq]
  have k := c4_plain_l (q := q) hs (H := H) s.length 0 rfl (Nat.zero_le _)
  simp only [Qam, List.drop_zero] at k
  simp (maxDischargeDepth := 9) only [Qah, Qfg, k]
theorem all_parts (s : List UInt8) : (s.all fun c => decide (c ∈ ([97, 98, 99, 100, 101, 102, 103, 104, 105, 106, 107, 108, 109, 110, 111, 112, 113, 114, 115, 116, 117, 118, 119, 120, 121, 122, 48, 49, 50, 51, 52, 53, 54, 55, 56, 57, 45] : List UInt8))) = s.all Te.part := by
  have e : (fun c : UInt8 => decide (c ∈ ([97, 98, 99, 100, 101, 102, 103, 104, 105, 106, 107, 108, 109, 110, 111, 112, 113, 114, 115, 116, 117, 118, 119, 120, 121, 122, 48, 49, 50, 51, 52, 53, 54, 55, 56, 57, 45] : List UInt8))) = Te.part := by
    funext c
    rw [Bool.eq_iff_iff, decide_eq_true_eq]
    exact mem_parts c
  rw [e]
theorem c4_Name {s : List UInt8} (hs : s.length ≤ 9223372036854775807) (H : Heap) : E n_teller_Name [.str s] H = some (.ret (.bool (Te.name s)), H) := by
  rw [teller_Name_E, teller_Name_eq]
  cases s with
  | nil => simp (maxDischargeDepth := 9) only [Qah, Qab, Qci, Qfp, Qft, Qen, Qda, Qgf, decide_true, Bool.not_true, Te.name]
  | cons c s =>
    have hne : ¬ (c :: s) = [] := by simp
    have k := c4_plain (q := [97, 98, 99, 100, 101, 102, 103, 104, 105, 106, 107, 108, 109, 110, 111, 112, 113, 114, 115, 116, 117, 118, 119, 120, 121, 122, 48, 49, 50, 51, 52, 53, 54, 55, 56, 57, 45]) hs H
    rw [all_parts] at k
    dsimp only at k
    unfold Te.name
    by_cases h : ((s.length + 1 : Nat) : Int) ≤ (40 : Int)
    · have h2 : (c :: s).length ≤ 40 := by simp only [List.length_cons]; omega
      rw [decide_eq_true h2]
      have hl := (idxB_mem c [97, 98, 99, 100, 101, 102, 103, 104, 105, 106, 107, 108, 109, 110, 111, 112, 113, 114, 115, 116, 117, 118, 119, 120, 121, 122]).trans (mem_letters c)
      cases h1 : Te.letter c with
      | true =>
        rw [h1] at hl
        have h3 := hl.2 rfl
        simp (maxDischargeDepth := 9) only [Qah, Qab, Qcl, Qfp, Qfu, Qfg, Qeh, Qef, Qen, Qda, Qgf, Qfa, decide_true, decide_false, Bool.not_false, List.length_cons, Bool.and_true, Bool.true_and, hne, h, i4_IndexByte, h3, k, h1]
      | false =>
        rw [h1] at hl
        have h3 := mt hl.1 (by simp)
        simp (maxDischargeDepth := 9) only [Qah, Qab, Qcl, Qci, Qfp, Qfu, Qft, Qfg, Qeh, Qef, Qen, Qda, Qgf, Qfa, decide_true, decide_false, Bool.not_false, List.length_cons, Bool.false_and, Bool.and_false, hne, h, i4_IndexByte, h3, h1]
    · have h2 : ¬ (c :: s).length ≤ 40 := by simp only [List.length_cons]; omega
      rw [decide_eq_false h2]
      simp (maxDischargeDepth := 9) only [Qah, Qab, Qcl, Qci, Qfp, Qfu, Qft, Qfg, Qeh, Qen, Qda, Qgf, decide_false, Bool.not_false, List.length_cons, Bool.false_and, hne, h]

theorem c4_folded_l {s : List UInt8} (hs : s.length ≤ 9223372036854775807) {H : Heap} : ∀ (m i : Nat), s.length - i = m → i ≤ s.length →
    teller_folded_l1 H.length (.str s) (.int .i64 s.length) (.int .i64 i) H = some (.ret (.bool ((s.drop i).all Te.foldC)), H)
  | m, i, hm, hi => by
    rw [teller_folded_l1_eq]
    by_cases h : i < s.length
    · have h' : (i : Int) < (s.length : Int) := by omega
      obtain ⟨m, rfl⟩ : ∃ k, m = k + 1 := ⟨m - 1, by omega⟩
      have ih := c4_folded_l hs (H := H) m (i + 1) (by omega) (by omega)
      rw [drop_at h, List.all_cons]
      have e : Te.foldC s[i] = (!decide ((s[i].toNat : Int) < 32) && !decide ((126 : Int) < (s[i].toNat : Int)) && !decide ((s[i].toNat : Int) = 34) && !(decide ((65 : Int) ≤ (s[i].toNat : Int)) && decide ((s[i].toNat : Int) ≤ 90))) := by
        unfold Te.foldC; rw [Bool.eq_iff_iff]; simp only [Bool.and_eq_true, Bool.not_eq_true', decide_eq_true_eq, decide_eq_false_iff_not, beq_eq_false_iff_ne, Bool.and_eq_false_iff]; omega
      rw [e]
      cases h1 : decide ((s[i].toNat : Int) < 32) <;> cases h2 : decide ((126 : Int) < (s[i].toNat : Int)) <;> cases h3 : decide ((s[i].toNat : Int) = 34) <;> cases h4 : decide ((65 : Int) ≤ (s[i].toNat : Int)) <;> cases h5 : decide ((s[i].toNat : Int) ≤ 90) <;> simp (maxDischargeDepth := 9) only [Qah, Qbe, Qbd, Qcl, Qcj, Qci, Qck, Qfp, Qfu, Qft, Qea, Qee, Qei, Qeh, Qeg, Qef, Qda, Qgf, decide_true, Bool.not_true, Bool.not_false, Bool.and_true, Bool.true_and, Bool.false_and, Bool.and_false, h', str_at h, h1, h2, h3, h4, h5, wrap_in h hs, ih]
    · have h' : ¬ (i : Int) < (s.length : Int) := by omega
      rw [List.drop_of_length_le (by omega)]
      simp (maxDischargeDepth := 9) only [Qah, Qbd, Qfp, Qea, Qei, Qda, Qgf, decide_false, h', List.all_nil]
theorem c4_folded {s : List UInt8} (hs : s.length ≤ 9223372036854775807) (H : Heap) : E n_teller_folded [.str s] H = some (.ret (.bool (Te.fold s)), H) := by
  rw [teller_folded_E, teller_folded_eq]
  have k := c4_folded_l hs (H := H) s.length 0 rfl (Nat.zero_le _)
  simp only [Qam, List.drop_zero] at k
  simp (maxDischargeDepth := 9) only [Qah, Qfg, k]
  rfl
end Go.Proofs.YthcjjicplodhjaaDoor
end

section
/- Numbers, and expressions that are right: the document. -/
namespace Go.Proofs.YthcjjicplodhjaaDoor
open Go Go.Ev
set_option linter.unusedVariables false
set_option linter.unusedSimpArgs false

theorem idxE {l : List Int} {i : Nat} (h : i < l.length) (k : IntKind) : oIndexPtr 1 (.vs (l.map (V.int .i64))) (.int k (i : Int)) = some (.fptr [.int .i64 l[i]]) :=
  oIndexPtr_vs (y := .int .i64 l[i]) (by simp [h]) rfl
end Go.Proofs.YthcjjicplodhjaaDoor
end

section
/- Expressions that are right: the document. -/
namespace Go.Proofs.YthcjjicplodhjaaDoor
open Go Go.Ev
set_option linter.unusedVariables false
set_option linter.unusedSimpArgs false

theorem lenI (l : List Int) : oLenSl (encI l) = some (.int .i64 l.length) := by simp [encI]
theorem lenE (l : List Rd.Expr) : oLenSl (.vs (encEs l)) = some (.int .i64 l.length) := by simp [encEs_map]
theorem nilI (n : List Int) : decide (n = []) = !decide ((0 : Int) < (n.length : Int)) := by
  cases n with
  | nil => rfl
  | cons a n =>
    have : (0 : Int) < (((a :: n).length : Nat) : Int) := by simp only [List.length_cons]; omega
    rw [decide_eq_true this]; rfl
end Go.Proofs.YthcjjicplodhjaaDoor
end

section
/- Expressions that are right, kind by kind: the document. -/
namespace Go.Proofs.YthcjjicplodhjaaDoor
open Go Go.Ev
set_option linter.unusedVariables false
set_option linter.unusedSimpArgs false

end Go.Proofs.YthcjjicplodhjaaDoor
end

section
/- Expressions that are right, the last kinds: the document. -/
namespace Go.Proofs.YthcjjicplodhjaaDoor
open Go Go.Ev
set_option linter.unusedVariables false
set_option linter.unusedSimpArgs false

end Go.Proofs.YthcjjicplodhjaaDoor
end

section
/- Whether an expression is right: the document, whole. -/
namespace Go.Proofs.YthcjjicplodhjaaDoor
open Go Go.Ev
set_option linter.unusedVariables false
set_option linter.unusedSimpArgs false

theorem idxK {l : List Rd.Expr} {i : Nat} (h : i < l.length) (k : IntKind) : oIndexPtr 6 (.vs (encEs l)) (.int k (i : Int)) = some (.fptr (encE l[i]).cells) :=
  oIndexPtr_vs (y := encE l[i]) (by rw [encEs_map]; simp [h]) (by simp)
theorem takeE (x : Rd.Expr) : takeCells true 6 (encE x).cells = some (encE x) := by cases x; rfl
end Go.Proofs.YthcjjicplodhjaaDoor
end

section
/- Is there one of which a function says so: numbers, expressions. -/
namespace Go.Proofs.YthcjjicplodhjaaDoor
open Go Go.Ev
set_option linter.unusedVariables false
set_option linter.unusedSimpArgs false

theorem c_IndexI_l {l : List Int} (hl : l.length ≤ 9223372036854775807) {f : FuncId} {cap : List V} {q : Int → Bool} {H : Heap} (hf : ∀ x ∈ l, E f (.int .i64 x :: cap) H = some (.ret (.bool (q x)), H)) : ∀ (m i : Nat), l.length - i = m → i ≤ l.length →
    ∃ r : Int, slices_IndexFunc_int_int_l1 H.length (encI l) (.fn f cap) (.int .i64 l.length) (.int .i64 i) H = some (.ret (.int .i64 r), H) ∧ (0 ≤ r ↔ (l.drop i).any q = true)
  | m, i, hm, hi => by
    rw [slices_IndexFunc_int_int_l1_eq, encI]
    by_cases h : i < l.length
    · have h' : (i : Int) < (l.length : Int) := by omega
      obtain ⟨m, rfl⟩ : ∃ k, m = k + 1 := ⟨m - 1, by omega⟩
      have hx := hf l[i] (List.getElem_mem h)
      rw [List.drop_eq_getElem_cons h, List.any_cons]
      cases hq : q l[i] with
      | true =>
        rw [hq] at hx
        refine ⟨i, ?_, by simp⟩
        simp (maxDischargeDepth := 9) only [Qah, Qab, Qbe, Qes, Qea, Qei, Qda, Qfk, Qhm, Qgh, decide_true, List.nil_append, List.cons_append, h', idxE h, hx]
      | false =>
        rw [hq] at hx
        obtain ⟨r, i1, i2⟩ := c_IndexI_l hl hf m (i + 1) (by omega) (by omega)
        rw [encI] at i1
        refine ⟨r, ?_, by simpa using i2⟩
        simp (maxDischargeDepth := 9) only [Qah, Qab, Qbe, Qbd, Qes, Qea, Qei, Qda, Qfk, Qhm, Qgh, decide_true, List.nil_append, List.cons_append, h', idxE h, hx, wrap_in h hl, i1]
    · have h' : ¬ (i : Int) < (l.length : Int) := by omega
      refine ⟨-1, ?_, ?_⟩
      · simp (maxDischargeDepth := 9) only [Qah, Qbd, Qes, Qea, Qei, Qda, Qgh, decide_false, List.nil_append, List.cons_append, h']
      · rw [List.drop_of_length_le (by omega)]; simp
theorem c_ContainsI {l : List Int} (hl : l.length ≤ 9223372036854775807) {f : FuncId} {cap : List V} {q : Int → Bool} {H : Heap} (hf : ∀ x ∈ l, E f (.int .i64 x :: cap) H = some (.ret (.bool (q x)), H)) :
    E n_slices_ContainsFunc_int_int [encI l, .fn f cap] H = some (.ret (.bool (l.any q)), H) := by
  obtain ⟨r, h1, h2⟩ := c_IndexI_l hl hf l.length 0 rfl (Nat.zero_le _)
  rw [List.drop_zero] at h2
  simp only [Qam] at h1
  have h3 : E n_slices_IndexFunc_int_int [encI l, .fn f cap] H = some (.ret (.int .i64 r), H) := by
    rw [slices_IndexFunc_int_int_E, slices_IndexFunc_int_int_eq]
    simp only [lenI, Qah]
    exact h1
  rw [slices_ContainsFunc_int_int_E, slices_ContainsFunc_int_int_eq]
  have h4 : decide (0 ≤ r) = l.any q := by rw [Bool.eq_iff_iff, decide_eq_true_eq]; exact h2
  simp (maxDischargeDepth := 9) only [Qah, Qab, Qef, Qda, Qgf, h3, h4]

theorem c_IndexE_l {l : List Rd.Expr} (hl : l.length ≤ 9223372036854775807) {f : FuncId} {cap : List V} {q : Rd.Expr → Bool} {H : Heap} (hf : ∀ x ∈ l, E f (encE x :: cap) H = some (.ret (.bool (q x)), H)) : ∀ (m i : Nat), l.length - i = m → i ≤ l.length →
    ∃ r : Int, slices_IndexFunc_api_Expr_api_Expr_l1 H.length (.vs (encEs l)) (.fn f cap) (.int .i64 l.length) (.int .i64 i) H = some (.ret (.int .i64 r), H) ∧ (0 ≤ r ↔ (l.drop i).any q = true)
  | m, i, hm, hi => by
    rw [slices_IndexFunc_api_Expr_api_Expr_l1_eq]
    by_cases h : i < l.length
    · have h' : (i : Int) < (l.length : Int) := by omega
      obtain ⟨m, rfl⟩ : ∃ k, m = k + 1 := ⟨m - 1, by omega⟩
      have hx := hf l[i] (List.getElem_mem h)
      rw [List.drop_eq_getElem_cons h, List.any_cons]
      cases hq : q l[i] with
      | true =>
        rw [hq] at hx
        refine ⟨i, ?_, by simp⟩
        simp (maxDischargeDepth := 9) only [Qah, Qab, Qbe, Qes, Qea, Qei, Qda, Qfk, Qgh, Qhl, Qbh, Qbg, Qbp, decide_true, List.nil_append, List.cons_append, Nat.le_refl, h', idxK h, takeE, hx]
      | false =>
        rw [hq] at hx
        obtain ⟨r, i1, i2⟩ := c_IndexE_l hl hf m (i + 1) (by omega) (by omega)
        refine ⟨r, ?_, by simpa using i2⟩
        simp (maxDischargeDepth := 9) only [Qah, Qab, Qbe, Qbd, Qes, Qea, Qei, Qda, Qfk, Qgh, Qhl, Qbh, Qbg, Qbp, decide_true, List.nil_append, List.cons_append, Nat.le_refl, h', idxK h, takeE, hx, wrap_in h hl, i1]
    · have h' : ¬ (i : Int) < (l.length : Int) := by omega
      refine ⟨-1, ?_, ?_⟩
      · simp (maxDischargeDepth := 9) only [Qah, Qbd, Qes, Qea, Qei, Qda, Qgh, decide_false, List.nil_append, List.cons_append, h']
      · rw [List.drop_of_length_le (by omega)]; simp
theorem c_ContainsE {l : List Rd.Expr} (hl : l.length ≤ 9223372036854775807) {f : FuncId} {cap : List V} {q : Rd.Expr → Bool} {H : Heap} (hf : ∀ x ∈ l, E f (encE x :: cap) H = some (.ret (.bool (q x)), H)) :
    E n_slices_ContainsFunc_api_Expr_api_Expr [.vs (encEs l), .fn f cap] H = some (.ret (.bool (l.any q)), H) := by
  obtain ⟨r, h1, h2⟩ := c_IndexE_l hl hf l.length 0 rfl (Nat.zero_le _)
  rw [List.drop_zero] at h2
  simp only [Qam] at h1
  have h3 : E n_slices_IndexFunc_api_Expr_api_Expr [.vs (encEs l), .fn f cap] H = some (.ret (.int .i64 r), H) := by
    rw [slices_IndexFunc_api_Expr_api_Expr_E, slices_IndexFunc_api_Expr_api_Expr_eq]
    simp only [lenE, Qah]
    exact h1
  rw [slices_ContainsFunc_api_Expr_api_Expr_E, slices_ContainsFunc_api_Expr_api_Expr_eq]
  have h4 : decide (0 ≤ r) = l.any q := by rw [Bool.eq_iff_iff, decide_eq_true_eq]; exact h2
  simp (maxDischargeDepth := 9) only [Qah, Qab, Qef, Qda, Qgf, h3, h4]
end Go.Proofs.YthcjjicplodhjaaDoor
end

