/- DerivText: a part of the proof that each law of this seat answers true at every input. No condition. -/
import Derived.Test.YtdnmpaielmfiiaaDoorCards
import Derived.Test.YtdnmpaielmfiiaaDoorTie
import Derived.WalkKit
import Derived.ProofKit
import Derived.OpenShut
import Derived.Deep.DeepHandedRow
import Derived.Deep.DeepWitnessRowRef
import Derived.Test.YtdnmpaielmfiiaaDoorWd
import Derived.Test.YtdnmpaielmfiiaaDoorData
import Derived.Test.YtdnmpaielmfiiaaDoorLt
import Derived.Test.YtdnmpaielmfiiaaDoorEvH
set_option linter.unusedVariables false
set_option linter.unusedSimpArgs false
set_option maxRecDepth 20000
section
namespace Go.Proofs.YtdnmpaielmfiiaaDoor.derivText
open Go Go.Ev Go.RowKit Go.ChangeShapes Go.WideShapes Go.ChangeAt
set_option maxRecDepth 100000
theorem Ny (H : Type) (enc : TypeId × Value → H) (W : World) (O : Nat) (args : Array Value) (ds gs : List (DataW H)) (before : List MemPlace)
  (hval0 : ∀ (j : Nat) t v,Tryd.f6.params[j]? = some t → args[j]? = some v → Value.okWide Tryd.prog W .any O t v)
  (hW : DataW.Whole enc Tryd.prog Tryd.f6.params.toList Rows.derivTextSpec.vars false W args.toList ds gs before) (hL : laidMetH Tryd.prog Rows.derivTextRow.laid W) :
  Calls Tryd.prog 6 args W fun e W' => ∃ v,e = .returned v ∧ Rows.derivTextSpec.post enc Tryd.prog Tryd.f6 false true false false W args v W' := by
 have hval : ∀ (j : Nat) t v,Tryd.f6.params[j]? = some t → args[j]? = some v → Value.okWide Tryd.prog W .any O t v := hval0
 have hW' := hW
 have hlt := hW.lt
 obtain ⟨p,q,hA0,hV,rfl,hfz,hnd⟩ := hW
 have hA : DataW.TrodAll enc Tryd.prog W 0 (fun _ => true) true Tryd.f6.params.toList args.toList ds p := hA0
 rw [Tryd.params6] at hA hval
 obtain ⟨v0,vs0,d0,ds0,p0,q0,hargs,rfl,rfl,h0,g0⟩ := trodAll_cons hA
 obtain ⟨v1,vs1,d1,ds1,p1,q1,rfl,rfl,rfl,h1,g1⟩ := trodAll_cons g0
 obtain ⟨rfl,rfl,rfl⟩ := trodAll_nil g1
 obtain rfl : args = #[v0,v1] := by cases args; simp_all
 obtain ⟨rfl,rfl⟩ := trodVars_none hV
 obtain ⟨x0,r0,y0,z0⟩ := Rj Tryd.underlying34 Tryd.underlying5 (by kernel_rfl) (hval 0 34 v0 rfl rfl) h0 (fun x hx => hlt x (by simp [hx]))
 obtain ⟨x1,rfl,rfl,rfl,y1⟩ := Go.ChangeMaps.open_string Tryd.underlying9 (hval 1 9 v1 rfl rfl) h1
 have hT : Laid tabs W := Dg Du EZ (Au (l := Rows.derivTextRow.laid) (by kernel_rfl) hL)
 refine (AK Aj hT (QtZ (fun n hn => UG (y0 n hn)) (by unfold maxLen at z0; omega) x1.data.toList (by have := y1; unfold maxLen at this; simpa using (show x1.size ≤ 9223372036854775807 by omega))) (RelL.arr (us := [v0,.string x1]) (.cons r0 (.cons (.str _) .nil)))).mono fun e W' ⟨he,hb⟩ => ?_
 subst he
 exact ⟨_,rfl,Xl laidB hW' rfl (by kernel_rfl) hb rfl Tryd.underlying4 rfl rfl rfl⟩
theorem reads (os : Os) {H : Type} (enc : TypeId × Value → H) : ∃ places,DataW.whole enc Tryd.prog ((V6 os).forCall (fun _ _ => 0) ⟨#[],#[.slice none 0 0,.string ⟨#[]⟩],[]⟩).memory Tryd.f6.params.toList Rows.derivTextSpec.vars false #[.slice none 0 0,.string ⟨#[]⟩].toList 8 = some ([.nil,.lit (.string [])],[],places) :=
 ⟨[],by kernel_rfl⟩
theorem lifted (os : Os) (started : os.Started) (H : Type) (enc : TypeId × Value → H) (F : Stop.Interp) :
  ReturnsInHanded {} Tryd.checked os 6 .any ((OpenSpec.ofChange Rows.derivTextSpec).preRow enc Tryd.prog Tryd.f6 Rows.derivTextRow.domain false Rows.derivTextRow.laid) (((OpenSpec.ofChange Rows.derivTextSpec).at F).post enc Tryd.prog Tryd.f6 false true false false) := by
 obtain ⟨places,hx⟩ := reads os enc
 refine returnsInHanded_of_row (C := Tryd.checked) (s := OpenSpec.ofChange Rows.derivTextSpec) ownB started (by kernel_rfl) Tryd.func6
  (witness_row_atRef (enc := enc) (C := Tryd.checked) false (V6 os) #[.slice none 0 0,.string ⟨#[]⟩] rfl (by kernel_rfl) (by kernel_rfl) (by kernel_rfl)
   (OpenSpec.preRow_of_cond 8 hx (by kernel_rfl) (fun k hk => by cases hk) (by kernel_rfl) (EH os _))) ?_
 intro W O args ds gs before hval hW _ _ _ hL _ _
 exact Ny H enc W O args ds gs before hval hW hL
theorem said : Rows.DerivTextSaid :=
 OpenClaim.holds_of_cond 6 Tryd.f6 rfl rfl rfl rfl rfl rfl rfl ⟨rfl,rfl,rfl,rfl,rfl⟩ rfl rfl rfl rfl rfl (by kernel_rfl) Tryd.func6 (by kernel_rfl)
  (of_decide_eq_true (by kernel_rfl)) (by unfold Func.isWrapper; first | (rw [if_pos (by decide +kernel)]; kernel_rfl) | (rw [if_neg (by decide +kernel)]; exact ⟨rfl,rfl⟩))
  (fun os started H enc _ F => by rw [OpenClaim.pre_eq_preRow]; exact lifted os started H enc F)
theorem plain (f : FuncId) (fn : Func) (hf : Tryd.pinned.checked.prog.funcNamed "reglet/regletlaw08.DerivText" = some f) (hfn : Tryd.pinned.checked.prog.funcs[f]? = some fn) :
  false = Tryd.pinned.checked.prog.looks [] ∧ ∀ (j : Nat) t,fn.params[j]? = some t → Tryd.pinned.checked.prog.wantsStandIn t = false := by
 obtain rfl : f = 6 := Option.some.inj ((show Tryd.prog.funcNamed "reglet/regletlaw08.DerivText" = some 6 by kernel_rfl).symm.trans hf) |>.symm
 obtain rfl : fn = Tryd.f6 := (Option.some.inj (Tryd.func6.symm.trans hfn)).symm
 refine ⟨by kernel_rfl,fun j t ht => ?_⟩
 rw [Tryd.params6] at ht
 have ht := Array.mem_of_getElem? ht
 simp only [List.mem_toArray,List.mem_cons,List.not_mem_nil,or_false,or_self] at ht
 rcases ht with rfl | rfl
 ·exact (show Tryd.prog.wantsStandIn 34 = false by kernel_rfl)
 ·exact (show Tryd.prog.wantsStandIn 9 = false by kernel_rfl)
theorem card : Rows.DerivTextCardSaid :=
 Claim7.holds_tied_plain_at .later [] _ _ _ _ said (fun _ h => by cases h) (by kernel_rfl) (fun _ h => by cases h) derivText_row_tie rfl ⟨rfl,rfl⟩ (by kernel_rfl) rfl plain (by kernel_rfl)
end Go.Proofs.YtdnmpaielmfiiaaDoor.derivText
namespace Go.Proofs.YtdnmpaielmfiiaaDoor
theorem derivText_holds : Rows.DerivTextCardSaid := derivText.card
#print axioms derivText_holds
end Go.Proofs.YtdnmpaielmfiiaaDoor
end
