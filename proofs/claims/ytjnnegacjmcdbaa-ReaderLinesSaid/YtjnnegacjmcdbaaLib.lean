/- Lib: a part of the proof that each law of this seat answers true at every input. No condition. -/
import Derived.Test.YtjnnegacjmcdbaaRows
import Derived.WalkKit
import Derived.Lib.Strings
import Derived.Lib.Slices
import Derived.Lib.Walk
import Derived.Lib.Bytealg
import Derived.Test.YtjnnegacjmcdbaaHint
import Derived.Test.YtjnnegacjmcdbaaEvG
set_option linter.unusedVariables false
set_option linter.unusedSimpArgs false
set_option maxRecDepth 20000
section
/- The library's functions that this program calls, and what the evaluator says of the program is so. -/
namespace Go.Proofs.Ytjnnegacjmcdbaa
open Go Go.Ev Go.RowKit

set_option maxHeartbeats 1000000 in
set_option maxRecDepth 100000 in
theorem stringslite_IndexByte (s : ByteArray) (c : Int) (w : World) :
    Calls Try.prog 71 #[.string s, .int .u8 c] w fun e w' => e = .returned (.int .i64 (Lib.indexByte s.data.toList c.toNat.toUInt8)) ∧ w' = w := by
  go_enter Try.func71, Try.ntmps71
  go_wp2
  rw [run_callFunc_extern Try.func77 (by kernel_rfl) (by kernel_rfl) (by kernel_rfl) (e := Extern.BytealgIndexByte.indexByte) (by kernel_rfl), Lib.run_indexByteString]
  simp only [Result.andThen]
  rw [Oper.upon_value]
  go_wp2
  go_ret
  exact ⟨rfl, rfl⟩
set_option maxHeartbeats 1000000 in
theorem strings_IndexByte (s : ByteArray) (c : Int) (w : World) :
    Calls Try.prog 62 #[.string s, .int .u8 c] w fun e w' => e = .returned (.int .i64 (Lib.indexByte s.data.toList c.toNat.toUInt8)) ∧ w' = w := by
  go_enter Try.func62, Try.ntmps62
  go_wp2_with (go_at_call 71; refine (stringslite_IndexByte _ _ _).mono ?_; rintro e w' ⟨rfl, rfl⟩)
  go_ret
  exact ⟨rfl, rfl⟩

theorem mixed : Try.prog.follows .mixedOrders = true := by kernel_rfl
theorem namesB : (Try.prog.funcs.all fun fn => !fn.body.isSome || !(fn.name == "runtime.NumGoroutine")) = true := by kernel_rfl
theorem namesOK : NameOK Try.prog := by
  intro f fn hf hb
  have h := namesB
  rw [Array.all_eq_true_iff_forall_mem] at h
  have := h fn (Array.mem_of_getElem? hf)
  simpa [hb] using this
theorem intr_of : ∀ (l : List (Nat × (List V → Heap → Option (Out × Heap)))) (f : Nat) (g : List V → Heap → Option (Out × Heap)), intrAt l f = some g → (f, g) ∈ l
  | [], f, g, h => by cases h
  | (i, g') :: r, f, g, h => by
    unfold intrAt at h
    split at h
    · rename_i he
      injection h with h
      subst h
      have := Nat.eq_of_beq_eq_true he
      subst this
      exact List.mem_cons_self
    · exact List.mem_cons_of_mem _ (intr_of r f g h)
theorem intrOK : ∀ f g, hint.intr f = some g → Mod Try.prog f g := by
  intro f g h
  have hm := intr_of _ f g h
  rw [List.mem_singleton] at hm
  injection hm with h1 h2
  subst h1
  subst h2
  exact iIndexByte_mod strings_IndexByte (enters Try.func62 (by kernel_rfl) (by kernel_rfl))
theorem D_ok : DefOK Try.prog D := dfr0_ok mixed namesOK
theorem E_ok : CallOK Try.prog E := EV_ok D_ok mixed namesOK intrOK
theorem laidB : laidOutB Try.prog = true := by kernel_rfl
theorem ownB : ownKnob Try.prog.godebug = none := by kernel_rfl
end Go.Proofs.Ytjnnegacjmcdbaa
end

