/- EvG: a part of the proof that each law of this seat answers true at every input. No condition. -/
import Derived.Test.YthpghekebjadcaaEvF
import Derived.Lib.Bytealg
import Derived.Lib.LaidTab
import Derived.Below
import Derived.WalkSmall
import Derived.Sort.Grow
set_option linter.unusedVariables false
set_option linter.unusedSimpArgs false
section
namespace Go.Ev
variable {T : ZT}
open Go Go.RowKit
open Go.Sort (grow)
theorem enters {P : Program} {f : FuncId} {fn : Func} (hf : P.funcs[f]? = some fn) (hb : fn.body.isSome = true) (hn : (fn.name == "runtime.NumGoroutine") = false) (args : Array Value) (w : World) : (callFunc f args).run P w = .ok (.enter f args) w := by
 obtain ⟨c,hc⟩ := Option.isSome_iff_exists.1 hb
 have h1 : fn.name ≠ "runtime.NumGoroutine" := by simpa using hn
 simp [callFunc,hf,h1,hc,mark]
theorem Qfn {w w' : World} (h : Below w.heap.size w w') : Grew w w' := ⟨h.size,fun c hc => h.block c hc,h.os,h.tape,h.output⟩
theorem RelA.one {S : Ctx} {v : V} {us : Array Value} (h : RelA S [v] us) : ∃ u,us = #[u] ∧ Rel S v u := by
 have h2 := h.size
 simp at h2
 refine ⟨us[0],?_,h.get 0 v us[0] rfl (by simp [h2])⟩
 apply Array.ext (by simp [h2])
 intro i hi hj
 match i with
 | 0 => rfl
 | i + 1 => simp at hj
theorem RelA.two {S : Ctx} {v v' : V} {us : Array Value} (h : RelA S [v,v'] us) : ∃ u u',us = #[u,u'] ∧ Rel S v u ∧ Rel S v' u' := by
 have h2 := h.size
 simp at h2
 refine ⟨us[0],us[1],?_,h.get 0 v us[0] rfl (by simp [h2]),h.get 1 v' us[1] rfl (by simp [h2])⟩
 apply Array.ext (by simp [h2])
 intro i hi hj
 match i with
 | 0 => rfl
 | 1 => rfl
 | i + 2 => simp at hj; omega
end Go.Ev
end
section
namespace Go.Ev
def NV : List (Nat × (Qh → List V → Qa → Option (Out × Qa))) → Nat → Option (Qh → List V → Qa → Option (Out × Qa))
 | [],_ => none
 | (i,g) :: r,f => match Nat.beq i f with
  | true => some g
  | false => NV r f
def Uy (g : Qh → List V → Qa → Option (Out × Qa)) : Prop := ∀ args H call,Qw (fun c => g c args H) call
theorem Qa2 : ∀ (l : List (Nat × (Qh → List V → Qa → Option (Out × Qa)))) (f : Nat) (g : Qh → List V → Qa → Option (Out × Qa)),NV l f = some g → (f,g) ∈ l
 | [],f,g,h => by cases h
 | (i,g') :: r,f,g,h => by
  unfold NV at h
  split at h
  ·rename_i he
   injection h with h
   subst h
   have := Nat.eq_of_beq_eq_true he
   subst this
   exact List.mem_cons_self
  ·exact List.mem_cons_of_mem _ (Qa2 r f g h)
theorem Qqt {l : List (Nat × (Qh → List V → Qa → Option (Out × Qa)))} (h : ∀ p ∈ l,Uy p.2) : ∀ f g,NV l f = some g → ∀ args H call,Qw (fun c => g c args H) call :=
 fun f g hg => h _ (Qa2 l f g hg)
theorem Qp1 : ∀ p ∈ ([] : List (Nat × (Qh → List V → Qa → Option (Out × Qa)))),Uy p.2 := fun p hp => by simp at hp
open Go
def LA : List V → Qa → Option V
 | [],_ => some (.vs [.str [99,115,118],.str [105,110,105],.str [106,115,111,110],.str [115,117,109,115]])
 | _,_ => none
end Go.Ev
end
