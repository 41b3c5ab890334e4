/- Lc: a part of the proof that each law of this seat answers true at every input. No condition. -/
import Derived.Test.YtjnkigaiogjfcaaDoorLa
set_option linter.unusedVariables false
set_option linter.unusedSimpArgs false
set_option maxRecDepth 20000
section
/- The law: any expressions. -/
namespace Go.Proofs.YtjnkigaiogjfcaaDoor
open Go Go.Ev Go.X7 Go.Srt
set_option linter.unusedVariables false
set_option linter.unusedSimpArgs false
set_option maxRecDepth 20000

theorem law_RegexAny {l : List X} {s : S4} (hn : sizes l ≤ 1000000000000000) (hok : ∀ x ∈ l, x.ok) (hs : s.ok) : E n_law07_RegexAny [.vs (encXs l), encS s] [] = some (.ret (.bool true), []) := by
 have hcl : cleanL [V.vs (encXs l)] = true := by simp [cleanL, V.clean, encXs_clean]
 have sz := fun G => c7_size (H := G) hn hcl
 have aw := fun G => c7_awake G
 rw [law07_RegexAny_E, law07_RegexAny_eq]
 by_cases h : (200 : Int) < (sizes l : Int)
 ·simp (maxDischargeDepth := 9) only [Qah, Qag, Qab, Qbd, Qci, Qfm, Qfr, Qed, Qgc, Qan, Qgo, Qgn, Qgs, Qcr, Qfv, decide_true, List.length_nil, Bool.and_true, Nat.le_refl, sz, h, aw]
  rfl
 ·have fn := fun G => c7_fine (l := l) (by omega) hok (H := G) hcl
  have o1 := fun G => p7_Of s G
  have o2 := fun G => r7_Of hs G
  have sm := fun G => r7_Same 1000000 (ofX s) (ofX s) (by unfold ofX; split <;> simp [X.size, sizes]) (Nat.le_refl _) G
  rw [sameX_self] at sm
  simp (maxDischargeDepth := 9) only [Qah, Qag, Qab, Qbc, Qci, Qhd, Qgm, Qfm, Qfr, Qed, Qcz, Qgc, Qan, Qgo, Qgn, Qgs, Qcr, Qcj, Qfv, Qhi, decide_false, List.drop_zero, List.length_cons, List.length_nil, Nat.zero_add, Bool.and_true, Nat.reduceAdd, oLoad_ptr, Nat.le_refl, List.take_zero, List.take_succ_cons, sz, h, aw, fn, o1, o2, sm]
  rfl
end Go.Proofs.YtjnkigaiogjfcaaDoor
end

