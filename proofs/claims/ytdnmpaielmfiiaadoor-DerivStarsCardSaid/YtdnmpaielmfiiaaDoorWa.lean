/- Wa: a part of the proof that each law of this seat answers true at every input. No condition. -/
import Derived.Test.YtdnmpaielmfiiaaDoorRows
import Derived.RangeFuncBox
import Derived.RangeFuncNested
import Derived.RangeFuncBound
import Derived.RangeFuncCalls
import Derived.RangeFuncLeaves
import Derived.Shelf.Abstract
import Derived.Shelf.RegionOpen
import Derived.WalkKit
import Derived.OwnWalkIn
import Derived.TacticsInMore
import Derived.LoopNIn
import Derived.LoopIn
import Derived.Maps.AppendAt
import Derived.Test.YtdnmpaielmfiiaaDoorHint
import Derived.Test.YtdnmpaielmfiiaaDoorEvG
set_option linter.unusedVariables false
set_option linter.unusedSimpArgs false
set_option maxRecDepth 2000
section
namespace Go.Proofs.YtdnmpaielmfiiaaDoor
open Go Go.Ev Go.RowKit Go.Shelf
attribute [local go_sem] Oper.semAt_some
theorem QhW {n k : Nat} (h0 : 0 < n) (h1 : n < 2 ^ 64) (hk : n &&& (2 ^ 64 - n) = 2 ^ k) : Yd n = (((2 ^ k * 285870213051353865) % 2 ^ 64 / 2 ^ 58 : Nat) : Int) := by
 have e1 : IntKind.u64.wrap (0 - (n : Int)) = ((2 ^ 64 - n : Nat) : Int) := by rw [IntKind.wrap_u64]; omega
 have e2 : (BitVec.ofInt 64 (n : Int) &&& BitVec.ofInt 64 ((2 ^ 64 - n : Nat) : Int)).toNat = 2 ^ k := by
  rw [BitVec.toNat_and,BitVec.toNat_ofInt,BitVec.toNat_ofInt]
  rw [show ((n : Int) % (2 ^ 64 : Nat)).toNat = n by omega,show (((2 ^ 64 - n : Nat) : Int) % (2 ^ 64 : Nat)).toNat = 2 ^ 64 - n by omega,hk]
 unfold Yd
 rw [e1,e2,Int.fdiv_eq_ediv_of_nonneg _ (by omega),IntKind.wrap_u64,IntKind.wrap_u64]
 have h2 : (2 : Nat) ^ k ≤ 2 ^ 64 := by rw [← hk]; exact Nat.le_trans Nat.and_le_left (by omega)
 generalize (2 : Nat) ^ k = p at h2 ⊢
 omega
theorem Qh5 : ∀ k : Fin 64,Yu.getD ((2 ^ k.val * 285870213051353865) % 18446744073709551616 / 288230376151711744) 0 = (k.val : Int) ∧ (2 ^ k.val * 285870213051353865) % 18446744073709551616 / 288230376151711744 < 64 := by decide
theorem Qjb {n k : Nat} (h0 : 0 < n) (h1 : n < 2 ^ 64) (hk : n &&& (2 ^ 64 - n) = 2 ^ k) (hk' : k < 64) : Yu.getD (Yd n).toNat 0 = (k : Int) ∧ (Yd n).toNat < 64 ∧ 0 ≤ Yd n := by
 rw [QhW h0 h1 hk]
 have := Qh5 ⟨k,hk'⟩
 rw [Int.toNat_natCast]
 exact ⟨this.1,this.2,Int.natCast_nonneg _⟩
theorem LY {a b : Nat} (ha : a < 2 ^ 64) (hb : b < 2 ^ 64) : bits BinOp.and IntKind.u64 (a : Int) (b : Int) = ((a &&& b : Nat) : Int) := by
 have e : (BitVec.ofInt 64 (a : Int) &&& BitVec.ofInt 64 (b : Int)).toNat = a &&& b := by
  rw [BitVec.toNat_and,BitVec.toNat_ofInt,BitVec.toNat_ofInt]
  rw [show ((a : Int) % (2 ^ 64 : Nat)).toNat = a by omega,show ((b : Int) % (2 ^ 64 : Nat)).toNat = b by omega]
 have h : a &&& b < 2 ^ 64 := Nat.lt_of_le_of_lt Nat.and_le_left ha
 show IntKind.u64.wrap ((BitVec.ofInt 64 (a : Int) &&& BitVec.ofInt 64 (b : Int)).toNat : Int) = _
 rw [e,IntKind.wrap_u64]
 omega
end Go.Proofs.YtdnmpaielmfiiaaDoor
end
