/- Lc: a part of the proof that each law of this seat answers true at every input. No condition. -/
import Derived.Test.YthpghekebjadcaaC0
import Derived.Test.YthpghekebjadcaaC1
import Derived.Test.YthpghekebjadcaaC2
import Derived.Test.YthpghekebjadcaaC3
set_option linter.unusedVariables false
set_option linter.unusedSimpArgs false
set_option maxRecDepth 20000
section
namespace Go.Proofs.Ythpghekebjadcaa
open Go Go.Ev
theorem QnW {n : Int} (h : (Lit.int .u8 n).wf = true) : 0 ≤ n ∧ n ≤ 255 := by simpa [Lit.wf,IntKind.min,IntKind.max,IntKind.signed,IntKind.bits] using h
theorem Qo6 {x : Int} (h1 : 0 ≤ x) (h2 : x ≤ 255) : IntKind.i64.wrap x = x := by
 simp only [IntKind.wrap,IntKind.bits,IntKind.signed,Nat.reduceSub,Int.reducePow,Bool.true_and]
 split <;> rename_i h <;> simp at h <;> omega
theorem Qhx {k : Int} (h : 0 ≤ k ∧ k ≤ 255) (g : V → Option (Out × Qa)) : bnd (NN .i64 (.int .u8 k)) (fun v => bnd (Kn .rem 6 v (.int .i64 4)) g) = g (.int .i64 (k % 4)) := by
 rw [YL,Rl]
 simp only [WW,Option.bind_some]
 rw [YL,Kg,Qo6 h.1 h.2]
 have : Ym .rem 6 (.int .i64 k) (.int .i64 4) = some (.int .i64 (k % 4)) := by
  simp [Ym,Wb,KM,WU,Int.tmod_eq_emod_of_nonneg h.1]
 rw [this]
 rfl
theorem Qif {k : Int} (h : 0 ≤ k ∧ k ≤ 255) : E Vo [.int .u8 k] [] = E Vo [.int .u8 (k % 4)] [] := by
 have h' : 0 ≤ k % 4 ∧ k % 4 ≤ 255 := by omega
 have e : k % 4 % 4 = k % 4 := by omega
 rw [AE,AE,Tv,Tv]
 simp only [Qhx h,Qhx h',e]
theorem Qsb (k : Int) (h : 0 ≤ k ∧ k ≤ 255) : E Vo [.int .u8 k] [] = some (.ret (.bool true),[]) := by
 rw [Qif h]
 have : k % 4 = 0 ∨ k % 4 = 1 ∨ k % 4 = 2 ∨ k % 4 = 3 := by omega
 rcases this with e | e | e | e <;> rw [e]
 ·exact kev Qqb
 ·exact kev QrL
 ·exact Qob
 ·exact kev Qjz
end Go.Proofs.Ythpghekebjadcaa
end
