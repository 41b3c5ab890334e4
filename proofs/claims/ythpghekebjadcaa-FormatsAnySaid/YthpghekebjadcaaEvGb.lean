/- EvGb: a part of the proof that each law of this seat answers true at every input. No condition. -/
import Derived.Test.YthpghekebjadcaaEvF
import Derived.ProofKit
import Derived.OpenShut
import Derived.Test.YthpghekebjadcaaEvG
set_option linter.unusedVariables false
set_option linter.unusedSimpArgs false
section
namespace Go.Ev
open Go Go.RowKit Go.ChangeShapes Go.WideShapes
variable {T : Qt}
def start (W : World) : Ctx := ⟨[],fun _ => 0,fun _ => False,W⟩
theorem NA (W : World) (c : Nat) : (start W).free c := ⟨fun h => by obtain ⟨i,h,_⟩ := h; simp [start,Ctx.live,Qj,Qd] at h,fun h => h⟩
def Laid (T : Qt) (W : World) : Prop := ∀ c us,T c us → ∃ e fr,W.heap[c]? = some (.cells us e fr)
theorem PF {W : World} (hT : Laid T W) : Sim T (start W) := ⟨fun i b h => by simp [start,Qd] at h,fun i j h => by simp [start,Ctx.live,Qj,Qd] at h,fun i h => by simp [start,Ctx.live,Qj,Qd] at h,fun c h => h.elim,
 fun c us h => by
  obtain ⟨e,fr,h1⟩ := hT c us h
  exact ⟨NA W c,(Array.getElem?_eq_some_iff.1 h1).1,e,fr,h1⟩⟩
theorem PZ {W : World} {S' : Ctx} (h : Ext (start W) S') : Below W.heap.size W S'.w :=
 ⟨h.os,h.tape,h.output,h.size,fun k hk => (h.keep k hk (NA W k)).1⟩
theorem Eg {P : Program} {c : Qc} (hok : QJ T P c) {f : FuncId} {vs : List V} {us : Array Value} {W : World} (hT : Laid T W) (he : c f vs [] = some (.ret (.bool true),[])) (hA : RelA (start W) vs us) :
  Calls P f us W fun e W' => e = .returned (.bool true) ∧ Below W.heap.size W W' := by
 refine (hok f vs [] _ _ he (start W) us rfl (PF hT) hA).2.mono fun e W' h => ?_
 obtain ⟨S',h1,h2⟩ := h
 have hb := PZ h1.ext
 rw [h1.w] at hb
 refine ⟨?_,hb⟩
 cases e with
 | returned u =>
  have h2 : Rel S' (.bool true) u := h2
  cases h2; rfl
 | _ => exact h2.elim
theorem N1 {H : Type} {enc : TypeId × Value → H} {P : Program} (hl : laidOutB P = true) {W W' : World} (hb : Below W.heap.size W W') : ∀ (ts : List TypeId) {vs : List Value} {ds : List (DataW H)} {ps : List MemPlace},
  (∀ t ∈ ts,P.readableRec t = true ∧ t < P.types.size) → DataW.TrodAll enc P W 0 (fun _ => true) true ts vs ds ps → (∀ x ∈ ps,x.block < W.heap.size) → DataW.TrodAll enc P W' 0 (fun b => decide (b < W.heap.size)) true ts vs ds ps
 | [],vs,ds,ps,hr,h,hlt => by
  obtain ⟨rfl,rfl,rfl⟩ := trodAll_nil h
  exact trodAll_mk0
 | t :: ts,vs,ds,ps,hr,h,hlt => by
  obtain ⟨v,vs',d,ds',p,q,rfl,rfl,rfl,h0,h1⟩ := trodAll_cons h
  have hr0 := hr t (by simp)
  exact trodAll_cons_mk (Below.trod hl hr0.1 hr0.2 h0 hb (fun x hx => hlt x (List.mem_append_left _ hx))) (N1 hl hb ts (fun t ht => hr t (by simp [ht])) h1 (fun x hx => hlt x (List.mem_append_right _ hx)))
theorem E7 {W W' : World} (hb : Below W.heap.size W W') (may : MemPlace → Prop) : W.keptBut W' may := by
 refine ⟨hb.os,hb.output,fun i hi => ?_⟩
 rw [hb.block i hi]
 cases W.heap[i]? with
 | none => rfl
 | some o => cases o <;> simp
theorem F1 {H : Type} {enc : TypeId × Value → H} {P : Program} (hl : laidOutB P = true) {f : Func} {s : ChangeSpec} {fresh handsOn : Bool} {W W' : World} {args : Array Value} {ds gs : List (DataW H)} {before : List MemPlace} {tb : TypeId}
  (hW : DataW.Whole enc P f.params.toList s.vars false W args.toList ds gs before) (hv : s.vars = []) (hr0 : (f.params.toList.all fun t => P.readableRec t && decide (t < P.types.size)) = true)
  (hb : Below W.heap.size W W') (hres : f.resultTypes = #[tb]) (htb : P.underlying tb = some .bool) (h1 : (s.fn H (ds ++ gs)).results = [.lit (.bool true)]) (h2 : (s.fn H (ds ++ gs)).args = ds) (h3 : (s.fn H (ds ++ gs)).vars = []) :
  s.post enc P f false fresh handsOn false W args (.bool true) W' := by
 have hr : ∀ t ∈ f.params.toList,P.readableRec t = true ∧ t < P.types.size := fun t ht => by simpa using List.all_eq_true.1 hr0 t ht
 have hlt := hW.lt
 obtain ⟨p,q,hA,hV,hps,hz,hn⟩ := id hW
 rw [hv] at hV
 obtain ⟨rfl,rfl⟩ := trodVars_none hV
 refine ⟨ds,[],before,[],p,[],hW,?_,?_,?_,E7 hb _,fun h => by cases h⟩
 ·rw [hres,h1]
  exact trodAll_mk1 (shut_bool htb _)
 ·rw [h2]
  exact N1 hl hb _ hr hA (fun x hx => hlt x (by rw [hps]; exact List.mem_append_left _ hx))
 ·rw [h3,hv]; rfl
inductive RelL (S : Ctx) : List V → List Value → Prop
 | nil : RelL S [] []
 | cons {v : V} {u : Value} {vs : List V} {us : List Value} : Rel S v u → RelL S vs us → RelL S (v :: vs) (u :: us)
theorem RelL.get {S : Ctx} {vs : List V} {us : List Value} (h : RelL S vs us) : us.length = vs.length ∧ ∀ (j : Nat) (x : V) (u : Value),vs[j]? = some x → us[j]? = some u → Rel S x u := by
 induction h with
 | nil => exact ⟨rfl,fun j x u h => by simp at h⟩
 | cons h0 _ ih =>
  refine ⟨by simp [ih.1],fun j x u h1 h2 => ?_⟩
  cases j with
  | zero => simp at h1 h2; subst h1; subst h2; exact h0
  | succ j => exact ih.2 j x u (by simpa using h1) (by simpa using h2)
theorem RelL.arr {S : Ctx} {vs : List V} {us : List Value} (h : RelL S vs us) : RelA S vs us.toArray := ⟨by simp [h.get.1],fun j x u h1 h2 => h.get.2 j x u h1 (by simpa using h2)⟩
end Go.Ev
end
section
namespace Go.Ev
variable {T : Qt}
theorem Jy : ∀ {cs : List V} {j : Nat} {x : V},Qw cs = true → cs[j]? = some x → x.clean = true
 | [],j,x,_,h => by simp at h
 | c :: cs,0,x,hc,h => by
  simp only [Qw,Bool.and_eq_true] at hc
  simp at h; subst h; exact hc.1
 | c :: cs,j + 1,x,hc,h => by
  simp only [Qw,Bool.and_eq_true] at hc
  exact Jy hc.2 (by simpa using h)
theorem Rel.alone {S S' : Ctx} (hx : ∀ c,S.free c → c < S.w.heap.size → S'.free c ∧ c < S'.w.heap.size ∧ S'.w.heap[c]? = S.w.heap[c]?) {v : V} {u : Value} (h : Rel S v u) : v.clean = true → Rel S' v u := by
 induction h with
 | junk u => intro hc; simp [V.clean] at hc
 | bool b => intro _; exact .bool b
 | int k n => intro _; exact .int k n
 | str bs => intro _; exact .str bs
 | nilptr => intro _; exact .nilptr
 | ptr i ver off a hi h => intro hc; simp [V.clean] at hc
 | fptr cs c off us hf hlt hcl h1 h2 ih =>
  intro _
  obtain ⟨k1,k2,k3⟩ := hx c hf hlt
  exact .fptr cs c off us k1 k2 hcl (fun j x hj => by rw [cell?_congr k3]; exact h1 j x hj) fun j x hj => ih j x hj (Jy hcl hj)
 | nils => intro _; exact .nils
 | emp a => intro _; exact .emp a
 | vs xs a n cap c off sz us hn hcap hcl ha hsz h1 h2 ih =>
  intro _
  refine .vs xs a n cap c off sz us hn hcap hcl (fun hne => ?_) hsz (fun i x j y hi hj => ?_) fun i x j y hi hj => ih i x j y hi hj (Jy (Rx (Jy hcl hi)) hj)
  ·obtain ⟨a1,a2,a3⟩ := ha hne
   obtain ⟨k1,k2,k3⟩ := hx c a2 a3
   exact ⟨a1,k1,k2⟩
  ·have hne : xs ≠ [] := by rintro rfl; simp at hi
   obtain ⟨a1,a2,a3⟩ := ha hne
   rw [cell?_congr (hx c a2 a3).2.2]; exact h1 i x j y hi hj
 | rs i ver sz off n a cap hi hcap h => intro hc; simp [V.clean] at hc
 | fn f cap us hl h2 ih => intro hc; exact .fn f cap us hl fun j x u hj hu => ih j x u hj hu (Jy (by simpa [V.clean] using hc) hj)
 | nilfn => intro _; exact .nilfn
 | niface => intro _; exact .niface
 | iface t v u h ih => intro hc; exact .iface t v u (ih (by simpa [V.clean] using hc))
 | agg cs us hl h2 ih => intro hc; exact .agg cs us hl fun j x u hj hu => ih j x u hj hu (Jy (by simpa [V.clean] using hc) hj)
 | tup cs us hl h2 ih => intro hc; exact .tup cs us hl fun j x u hj hu => ih j x u hj hu (Jy (by simpa [V.clean] using hc) hj)
 | nilmap => intro _; exact .nilmap
 | mapr i c hi h => intro hc; simp [V.clean] at hc
def Ctx.only (S : Ctx) (w : World) : Ctx := ⟨[],fun _ => 0,fun c => c < w.heap.size ∧ ¬ (S.free c ∧ c < S.w.heap.size),w⟩
end Go.Ev
namespace Go.Ev
end Go.Ev
end
