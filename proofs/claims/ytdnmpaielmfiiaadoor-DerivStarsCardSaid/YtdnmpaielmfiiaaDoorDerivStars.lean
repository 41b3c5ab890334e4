/- DerivStars: a part of the proof that each law of this seat answers true at every input. No condition. -/
import Derived.Test.YtdnmpaielmfiiaaDoorCards
import Derived.Test.YtdnmpaielmfiiaaDoorTie
import Derived.WalkKit
import Derived.ProofKit
import Derived.OpenShut
import Derived.Deep.DeepHandedRow
import Derived.Deep.DeepWitnessRowRef
import Derived.Test.YtdnmpaielmfiiaaDoorWd
import Derived.Test.YtdnmpaielmfiiaaDoorLs
import Derived.Test.YtdnmpaielmfiiaaDoorEvH
set_option linter.unusedVariables false
set_option linter.unusedSimpArgs false
set_option maxRecDepth 20000
section
namespace Go.Proofs.YtdnmpaielmfiiaaDoor.derivStars
open Go Go.Ev Go.RowKit Go.ChangeShapes Go.WideShapes Go.ChangeAt
set_option maxRecDepth 100000
theorem Ny (H : Type) (enc : TypeId × Value → H) (W : World) (O : Nat) (args : Array Value) (ds gs : List (DataW H)) (before : List MemPlace)
  (hval0 : ∀ (j : Nat) t v,Tryd.f10.params[j]? = some t → args[j]? = some v → Value.okWide Tryd.prog W .any O t v)
  (hW : DataW.Whole enc Tryd.prog Tryd.f10.params.toList Rows.derivStarsSpec.vars false W args.toList ds gs before) (hL : laidMetH Tryd.prog Rows.derivStarsRow.laid W) :
  Calls Tryd.prog 10 args W fun e W' => ∃ v,e = .returned v ∧ Rows.derivStarsSpec.post enc Tryd.prog Tryd.f10 false true false false W args v W' := by
 have hval : ∀ (j : Nat) t v,Tryd.f10.params[j]? = some t → args[j]? = some v → Value.okWide Tryd.prog W .any O t v := hval0
 have hW' := hW
 have hlt := hW.lt
 obtain ⟨p,q,hA0,hV,rfl,hfz,hnd⟩ := hW
 have hA : DataW.TrodAll enc Tryd.prog W 0 (fun _ => true) true Tryd.f10.params.toList args.toList ds p := hA0
 rw [Tryd.params10] at hA hval
 obtain ⟨v0,vs0,d0,ds0,p0,q0,hargs,rfl,rfl,h0,g0⟩ := trodAll_cons hA
 obtain ⟨v1,vs1,d1,ds1,p1,q1,rfl,rfl,rfl,h1,g1⟩ := trodAll_cons g0
 obtain ⟨v2,vs2,d2,ds2,p2,q2,rfl,rfl,rfl,h2,g2⟩ := trodAll_cons g1
 obtain ⟨rfl,rfl,rfl⟩ := trodAll_nil g2
 obtain rfl : args = #[v0,v1,v2] := by cases args; simp_all
 obtain ⟨rfl,rfl⟩ := trodVars_none hV
 obtain ⟨x0,r0,y0,z0⟩ := Rj Tryd.underlying34 Tryd.underlying5 (by kernel_rfl) (hval 0 34 v0 rfl rfl) h0 (fun x hx => hlt x (by simp [hx]))
 obtain ⟨x1,r1,y1,z1⟩ := Rj Tryd.underlying34 Tryd.underlying5 (by kernel_rfl) (hval 1 34 v1 rfl rfl) h1 (fun x hx => hlt x (by simp [hx]))
 obtain ⟨x2,r2,y2,z2⟩ := Rj Tryd.underlying34 Tryd.underlying5 (by kernel_rfl) (hval 2 34 v2 rfl rfl) h2 (fun x hx => hlt x (by simp [hx]))
 have hT : Laid tabs W := Dg Du EZ (Au (l := Rows.derivStarsRow.laid) (by kernel_rfl) hL)
 refine (AK Aj hT (Qus (fun n hn => UG (y0 n hn)) (by unfold maxLen at z0; omega) (fun n hn => UG (y1 n hn)) (by unfold maxLen at z1; omega) (fun n hn => UG (y2 n hn)) (by unfold maxLen at z2; omega)) (RelL.arr (us := [v0,v1,v2]) (.cons r0 (.cons r1 (.cons r2 .nil))))).mono fun e W' ⟨he,hb⟩ => ?_
 subst he
 exact ⟨_,rfl,Xl laidB hW' rfl (by kernel_rfl) hb rfl Tryd.underlying4 rfl rfl rfl⟩
theorem reads (os : Os) {H : Type} (enc : TypeId × Value → H) : ∃ places,DataW.whole enc Tryd.prog ((V6 os).forCall (fun _ _ => 0) ⟨#[],#[.slice none 0 0,.slice none 0 0,.slice none 0 0],[]⟩).memory Tryd.f10.params.toList Rows.derivStarsSpec.vars false #[.slice none 0 0,.slice none 0 0,.slice none 0 0].toList 8 = some ([.nil,.nil,.nil],[],places) :=
 ⟨[],by kernel_rfl⟩
theorem lifted (os : Os) (started : os.Started) (H : Type) (enc : TypeId × Value → H) (F : Stop.Interp) :
  ReturnsInHanded {} Tryd.checked os 10 .any ((OpenSpec.ofChange Rows.derivStarsSpec).preRow enc Tryd.prog Tryd.f10 Rows.derivStarsRow.domain false Rows.derivStarsRow.laid) (((OpenSpec.ofChange Rows.derivStarsSpec).at F).post enc Tryd.prog Tryd.f10 false true false false) := by
 obtain ⟨places,hx⟩ := reads os enc
 refine returnsInHanded_of_row (C := Tryd.checked) (s := OpenSpec.ofChange Rows.derivStarsSpec) ownB started (by kernel_rfl) Tryd.func10
  (witness_row_atRef (enc := enc) (C := Tryd.checked) false (V6 os) #[.slice none 0 0,.slice none 0 0,.slice none 0 0] rfl (by kernel_rfl) (by kernel_rfl) (by kernel_rfl)
   (OpenSpec.preRow_of_cond 8 hx (by kernel_rfl) (fun k hk => by cases hk) (by kernel_rfl) (EH os _))) ?_
 intro W O args ds gs before hval hW _ _ _ hL _ _
 exact Ny H enc W O args ds gs before hval hW hL
theorem said : Rows.DerivStarsSaid :=
 OpenClaim.holds_of_cond 10 Tryd.f10 rfl rfl rfl rfl rfl rfl rfl ⟨rfl,rfl,rfl,rfl,rfl⟩ rfl rfl rfl rfl rfl (by kernel_rfl) Tryd.func10 (by kernel_rfl)
  (of_decide_eq_true (by kernel_rfl)) (by unfold Func.isWrapper; first | (rw [if_pos (by decide +kernel)]; kernel_rfl) | (rw [if_neg (by decide +kernel)]; exact ⟨rfl,rfl⟩))
  (fun os started H enc _ F => by rw [OpenClaim.pre_eq_preRow]; exact lifted os started H enc F)
theorem plain (f : FuncId) (fn : Func) (hf : Tryd.pinned.checked.prog.funcNamed "reglet/regletlaw08.DerivStars" = some f) (hfn : Tryd.pinned.checked.prog.funcs[f]? = some fn) :
  false = Tryd.pinned.checked.prog.looks [] ∧ ∀ (j : Nat) t,fn.params[j]? = some t → Tryd.pinned.checked.prog.wantsStandIn t = false := by
 obtain rfl : f = 10 := Option.some.inj ((show Tryd.prog.funcNamed "reglet/regletlaw08.DerivStars" = some 10 by kernel_rfl).symm.trans hf) |>.symm
 obtain rfl : fn = Tryd.f10 := (Option.some.inj (Tryd.func10.symm.trans hfn)).symm
 refine ⟨by kernel_rfl,fun j t ht => ?_⟩
 rw [Tryd.params10] at ht
 have ht := Array.mem_of_getElem? ht
 simp only [List.mem_toArray,List.mem_cons,List.not_mem_nil,or_false,or_self] at ht
 rcases ht with rfl
 ·exact (show Tryd.prog.wantsStandIn 34 = false by kernel_rfl)
theorem card : Rows.DerivStarsCardSaid :=
 Claim7.holds_tied_plain_at .later [] _ _ _ _ said (fun _ h => by cases h) (by kernel_rfl) (fun _ h => by cases h) derivStars_row_tie rfl ⟨rfl,rfl⟩ (by kernel_rfl) rfl plain (by kernel_rfl)
end Go.Proofs.YtdnmpaielmfiiaaDoor.derivStars
namespace Go.Proofs.YtdnmpaielmfiiaaDoor
theorem derivStars_holds : Rows.DerivStarsCardSaid := derivStars.card
#print axioms derivStars_holds
end Go.Proofs.YtdnmpaielmfiiaaDoor
end
