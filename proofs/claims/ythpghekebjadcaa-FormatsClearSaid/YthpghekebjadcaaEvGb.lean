/- EvGb: a part of the proof that each law of this seat answers true at every input. No condition. -/
import Derived.Test.YthpghekebjadcaaEvF
import Derived.ProofKit
import Derived.OpenShut
import Derived.Test.YthpghekebjadcaaEvG
set_option linter.unusedVariables false
set_option linter.unusedSimpArgs false
section
namespace Go.Ev
open Go Go.RowKit Go.ChangeShapes Go.WideShapes
variable {T : ZT}
def start (W : World) : Ctx := ⟨[],fun _ => 0,fun _ => False,W⟩
theorem DK (W : World) (c : Nat) : (start W).free c := ⟨fun h => by obtain ⟨i,h,_⟩ := h; simp [start,Ctx.live,Zj,Q0] at h,fun h => h⟩
def Laid (T : ZT) (W : World) : Prop := ∀ c us,T c us → ∃ e fr,W.heap[c]? = some (.cells us e fr)
theorem Qj0 {W : World} (hT : Laid T W) : Sim T (start W) := ⟨fun i b h => by simp [start,Q0] at h,fun i j h => by simp [start,Ctx.live,Zj,Q0] at h,fun i h => by simp [start,Ctx.live,Zj,Q0] at h,fun c h => h.elim,
 fun c us h => by
  obtain ⟨e,fr,h1⟩ := hT c us h
  exact ⟨DK W c,(Array.getElem?_eq_some_iff.1 h1).1,e,fr,h1⟩⟩
theorem QnX {W : World} {S' : Ctx} (h : Ext (start W) S') : Below W.heap.size W S'.w :=
 ⟨h.os,h.tape,h.output,h.size,fun k hk => (h.keep k hk (DK W k)).1⟩
theorem QnP {P : Program} {c : Qh} (hok : Yb T P c) {f : FuncId} {vs : List V} {us : Array Value} {W : World} (hT : Laid T W) (he : c f vs [] = some (.ret (.bool true),[])) (hA : RelA (start W) vs us) :
  Calls P f us W fun e W' => e = .returned (.bool true) ∧ Below W.heap.size W W' := by
 refine (hok f vs [] _ _ he (start W) us rfl (Qj0 hT) hA).2.mono fun e W' h => ?_
 obtain ⟨S',h1,h2⟩ := h
 have hb := QnX h1.ext
 rw [h1.w] at hb
 refine ⟨?_,hb⟩
 cases e with
 | returned u =>
  have h2 : Rel S' (.bool true) u := h2
  cases h2; rfl
 | _ => exact h2.elim
theorem Qhh {H : Type} {enc : TypeId × Value → H} {P : Program} (hl : laidOutB P = true) {W W' : World} (hb : Below W.heap.size W W') : ∀ (ts : List TypeId) {vs : List Value} {ds : List (DataW H)} {ps : List MemPlace},
  (∀ t ∈ ts,P.readableRec t = true ∧ t < P.types.size) → DataW.TrodAll enc P W 0 (fun _ => true) true ts vs ds ps → (∀ x ∈ ps,x.block < W.heap.size) → DataW.TrodAll enc P W' 0 (fun b => decide (b < W.heap.size)) true ts vs ds ps
 | [],vs,ds,ps,hr,h,hlt => by
  obtain ⟨rfl,rfl,rfl⟩ := trodAll_nil h
  exact trodAll_mk0
 | t :: ts,vs,ds,ps,hr,h,hlt => by
  obtain ⟨v,vs',d,ds',p,q,rfl,rfl,rfl,h0,h1⟩ := trodAll_cons h
  have hr0 := hr t (by simp)
  exact trodAll_cons_mk (Below.trod hl hr0.1 hr0.2 h0 hb (fun x hx => hlt x (List.mem_append_left _ hx))) (Qhh hl hb ts (fun t ht => hr t (by simp [ht])) h1 (fun x hx => hlt x (List.mem_append_right _ hx)))
theorem Qnj {W W' : World} (hb : Below W.heap.size W W') (may : MemPlace → Prop) : W.keptBut W' may := by
 refine ⟨hb.os,hb.output,fun i hi => ?_⟩
 rw [hb.block i hi]
 cases W.heap[i]? with
 | none => rfl
 | some o => cases o <;> simp
theorem Qp9 {H : Type} {enc : TypeId × Value → H} {P : Program} (hl : laidOutB P = true) {f : Func} {s : ChangeSpec} {fresh handsOn : Bool} {W W' : World} {args : Array Value} {ds gs : List (DataW H)} {before : List MemPlace} {tb : TypeId}
  (hW : DataW.Whole enc P f.params.toList s.vars false W args.toList ds gs before) (hv : s.vars = []) (hr0 : (f.params.toList.all fun t => P.readableRec t && decide (t < P.types.size)) = true)
  (hb : Below W.heap.size W W') (hres : f.resultTypes = #[tb]) (htb : P.underlying tb = some .bool) (h1 : (s.fn H (ds ++ gs)).results = [.lit (.bool true)]) (h2 : (s.fn H (ds ++ gs)).args = ds) (h3 : (s.fn H (ds ++ gs)).vars = []) :
  s.post enc P f false fresh handsOn false W args (.bool true) W' := by
 have hr : ∀ t ∈ f.params.toList,P.readableRec t = true ∧ t < P.types.size := fun t ht => by simpa using List.all_eq_true.1 hr0 t ht
 have hlt := hW.lt
 obtain ⟨p,q,hA,hV,hps,hz,hn⟩ := id hW
 rw [hv] at hV
 obtain ⟨rfl,rfl⟩ := trodVars_none hV
 refine ⟨ds,[],before,[],p,[],hW,?_,?_,?_,Qnj hb _,fun h => by cases h⟩
 ·rw [hres,h1]
  exact trodAll_mk1 (shut_bool htb _)
 ·rw [h2]
  exact Qhh hl hb _ hr hA (fun x hx => hlt x (by rw [hps]; exact List.mem_append_left _ hx))
 ·rw [h3,hv]; rfl
inductive RelL (S : Ctx) : List V → List Value → Prop
 | nil : RelL S [] []
 | cons {v : V} {u : Value} {vs : List V} {us : List Value} : Rel S v u → RelL S vs us → RelL S (v :: vs) (u :: us)
theorem RelL.get {S : Ctx} {vs : List V} {us : List Value} (h : RelL S vs us) : us.length = vs.length ∧ ∀ (j : Nat) (x : V) (u : Value),vs[j]? = some x → us[j]? = some u → Rel S x u := by
 induction h with
 | nil => exact ⟨rfl,fun j x u h => by simp at h⟩
 | cons h0 _ ih =>
  refine ⟨by simp [ih.1],fun j x u h1 h2 => ?_⟩
  cases j with
  | zero => simp at h1 h2; subst h1; subst h2; exact h0
  | succ j => exact ih.2 j x u (by simpa using h1) (by simpa using h2)
theorem RelL.arr {S : Ctx} {vs : List V} {us : List Value} (h : RelL S vs us) : RelA S vs us.toArray := ⟨by simp [h.get.1],fun j x u h1 h2 => h.get.2 j x u h1 (by simpa using h2)⟩
end Go.Ev
end
section
namespace Go.Ev
variable {T : ZT}
end Go.Ev
namespace Go.Ev
end Go.Ev
end
