/- EvGb: a part of the proof that each law of this seat answers true at every input. No condition. -/
import Derived.Test.YtdnmpaielmfiiaaDoorEvF
import Derived.ProofKit
import Derived.OpenShut
import Derived.Test.YtdnmpaielmfiiaaDoorEvG
import Derived.Lib.LaidTab
import Derived.Lib.LaidCaseMet
set_option linter.unusedVariables false
set_option linter.unusedSimpArgs false
section
namespace Go.Ev
open Go Go.RowKit Go.ChangeShapes Go.WideShapes
variable {T : Zc}
def start (W : World) : Ctx := ⟨[],fun _ => 0,fun _ => False,W⟩
theorem Dc (W : World) (c : Nat) : (start W).free c := ⟨fun h => by obtain ⟨i,h,_⟩ := h; simp [start,Ctx.live,QI,Qh] at h,fun h => h⟩
def Laid (T : Zc) (W : World) : Prop := ∀ c us,T c us → ∃ e fr,W.heap[c]? = some (.cells us e fr)
theorem QjA {W : World} (hT : Laid T W) : Sim T (start W) := ⟨fun i b h => by simp [start,Qh] at h,fun i j h => by simp [start,Ctx.live,QI,Qh] at h,fun i h => by simp [start,Ctx.live,QI,Qh] at h,fun c h => h.elim,
 fun c us h => by
  obtain ⟨e,fr,h1⟩ := hT c us h
  exact ⟨Dc W c,(Array.getElem?_eq_some_iff.1 h1).1,e,fr,h1⟩⟩
theorem Qpk {W : World} {S' : Ctx} (h : Ext (start W) S') : Below W.heap.size W S'.w :=
 ⟨h.os,h.tape,h.output,h.size,fun k hk => (h.keep k hk (Dc W k)).1⟩
theorem AK {P : Program} {c : Qr} (hok : ZI T P c) {f : FuncId} {vs : List V} {us : Array Value} {W : World} (hT : Laid T W) (he : c f vs [] = some (.ret (.bool true),[])) (hA : RelA (start W) vs us) :
  Calls P f us W fun e W' => e = .returned (.bool true) ∧ Below W.heap.size W W' := by
 refine (hok f vs [] _ _ he (start W) us rfl (QjA hT) hA).2.mono fun e W' h => ?_
 obtain ⟨S',h1,h2⟩ := h
 have hb := Qpk h1.ext
 rw [h1.w] at hb
 refine ⟨?_,hb⟩
 cases e with
 | returned u =>
  have h2 : Rel S' (.bool true) u := h2
  cases h2; rfl
 | _ => exact h2.elim
theorem QfV {H : Type} {enc : TypeId × Value → H} {P : Program} (hl : laidOutB P = true) {W W' : World} (hb : Below W.heap.size W W') : ∀ (ts : List TypeId) {vs : List Value} {ds : List (DataW H)} {ps : List MemPlace},
  (∀ t ∈ ts,P.readableRec t = true ∧ t < P.types.size) → DataW.TrodAll enc P W 0 (fun _ => true) true ts vs ds ps → (∀ x ∈ ps,x.block < W.heap.size) → DataW.TrodAll enc P W' 0 (fun b => decide (b < W.heap.size)) true ts vs ds ps
 | [],vs,ds,ps,hr,h,hlt => by
  obtain ⟨rfl,rfl,rfl⟩ := trodAll_nil h
  exact trodAll_mk0
 | t :: ts,vs,ds,ps,hr,h,hlt => by
  obtain ⟨v,vs',d,ds',p,q,rfl,rfl,rfl,h0,h1⟩ := trodAll_cons h
  have hr0 := hr t (by simp)
  exact trodAll_cons_mk (Below.trod hl hr0.1 hr0.2 h0 hb (fun x hx => hlt x (List.mem_append_left _ hx))) (QfV hl hb ts (fun t ht => hr t (by simp [ht])) h1 (fun x hx => hlt x (List.mem_append_right _ hx)))
theorem QpM {W W' : World} (hb : Below W.heap.size W W') (may : MemPlace → Prop) : W.keptBut W' may := by
 refine ⟨hb.os,hb.output,fun i hi => ?_⟩
 rw [hb.block i hi]
 cases W.heap[i]? with
 | none => rfl
 | some o => cases o <;> simp
theorem Xl {H : Type} {enc : TypeId × Value → H} {P : Program} (hl : laidOutB P = true) {f : Func} {s : ChangeSpec} {fresh handsOn : Bool} {W W' : World} {args : Array Value} {ds gs : List (DataW H)} {before : List MemPlace} {tb : TypeId}
  (hW : DataW.Whole enc P f.params.toList s.vars false W args.toList ds gs before) (hv : s.vars = []) (hr0 : (f.params.toList.all fun t => P.readableRec t && decide (t < P.types.size)) = true)
  (hb : Below W.heap.size W W') (hres : f.resultTypes = #[tb]) (htb : P.underlying tb = some .bool) (h1 : (s.fn H (ds ++ gs)).results = [.lit (.bool true)]) (h2 : (s.fn H (ds ++ gs)).args = ds) (h3 : (s.fn H (ds ++ gs)).vars = []) :
  s.post enc P f false fresh handsOn false W args (.bool true) W' := by
 have hr : ∀ t ∈ f.params.toList,P.readableRec t = true ∧ t < P.types.size := fun t ht => by simpa using List.all_eq_true.1 hr0 t ht
 have hlt := hW.lt
 obtain ⟨p,q,hA,hV,hps,hz,hn⟩ := id hW
 rw [hv] at hV
 obtain ⟨rfl,rfl⟩ := trodVars_none hV
 refine ⟨ds,[],before,[],p,[],hW,?_,?_,?_,QpM hb _,fun h => by cases h⟩
 ·rw [hres,h1]
  exact trodAll_mk1 (shut_bool htb _)
 ·rw [h2]
  exact QfV hl hb _ hr hA (fun x hx => hlt x (by rw [hps]; exact List.mem_append_left _ hx))
 ·rw [h3,hv]; rfl
inductive RelL (S : Ctx) : List V → List Value → Prop
 | nil : RelL S [] []
 | cons {v : V} {u : Value} {vs : List V} {us : List Value} : Rel S v u → RelL S vs us → RelL S (v :: vs) (u :: us)
theorem RelL.get {S : Ctx} {vs : List V} {us : List Value} (h : RelL S vs us) : us.length = vs.length ∧ ∀ (j : Nat) (x : V) (u : Value),vs[j]? = some x → us[j]? = some u → Rel S x u := by
 induction h with
 | nil => exact ⟨rfl,fun j x u h => by simp at h⟩
 | cons h0 _ ih =>
  refine ⟨by simp [ih.1],fun j x u h1 h2 => ?_⟩
  cases j with
  | zero => simp at h1 h2; subst h1; subst h2; exact h0
  | succ j => exact ih.2 j x u (by simpa using h1) (by simpa using h2)
theorem RelL.arr {S : Ctx} {vs : List V} {us : List Value} (h : RelL S vs us) : RelA S vs us.toArray := ⟨by simp [h.get.1],fun j x u h1 h2 => h.get.2 j x u h1 (by simpa using h2)⟩
theorem Rj {H : Type} {enc : TypeId × Value → H} {P : Program} {W : World} {r : Reach} {b0 : Nat} {t e : TypeId} {k : IntKind} {v : Value} {d : DataW H} {ps : List MemPlace} (ht : P.underlying t = some (.slice e)) (he : P.underlying e = some (.int k)) (hc : P.cellsOf e = 1)
  (hval : Value.okWide P W r b0 t v) (h : DataW.Trod enc P W 0 (fun _ => true) true t v d ps) (hlt : ∀ x ∈ ps,x.block < W.heap.size) : ∃ zs : List Int,Rel (start W) (.vs (zs.map (V.int k))) v ∧ (∀ n ∈ zs,(Lit.int k n).wf = true) ∧ zs.length ≤ maxLen := by
 obtain ⟨fuel,hf⟩ := h
 have hvc : ∀ x,v.cells.toList = [x] → v = x := by
  intro x hx
  obtain ⟨a,len,cap,rfl⟩ := okWide_slice ht hval
  simpa [Value.cells] using hx
 rcases open_ints ht he hc hf with ⟨hcs,hx⟩ | ⟨a,len,cap,zs,hcs,_,hl,hm,hz,hx,hcell,hwz⟩
 ·refine ⟨[],?_,by simp,by simp⟩
  rw [hvc _ hcs]
  exact .vs [] none 0 0 0 0 0 (fun _ => .nilFunc) rfl (Nat.le_refl _) rfl (fun h => absurd rfl h) (by simp) (by simp) (by simp)
 ·simp only [if_true] at hz
  have hspot : 0 < len → a.spot = none := by
   intro h0
   have := hcell 0 (by omega)
   unfold World.cell? at this
   simp only [Addr.add,if_true] at this
   cases hs : a.spot with
   | none => rfl
   | some _ => rw [hs] at this; split at this <;> simp at this
  refine ⟨zs.take len,?_,fun n hn => hwz n (List.mem_of_mem_take hn),by simp; omega⟩
  rw [hvc _ hcs]
  have hlen : (zs.take len).length = len := by simp; omega
  have Qh : ∀ (i : Nat) (x : V),((zs.take len).map (V.int k))[i]? = some x → i < len ∧ x = .int k (zs.getD i 0) := by
   intro i x hi
   rw [List.getElem?_map] at hi
   cases hq : (zs.take len)[i]? with
   | none => rw [hq] at hi; cases hi
   | some n =>
    rw [hq] at hi
    have hil := (List.getElem?_eq_some_iff.1 hq).1
    rw [hlen] at hil
    rw [List.getElem?_take,if_pos hil] at hq
    refine ⟨hil,?_⟩
    simp only [Option.map_some,Option.some.injEq] at hi
    rw [← hi,List.getD_eq_getElem?_getD,hq]; rfl
  refine .vs _ (some a) len cap a.block a.off 1 (fun i => .int k (zs.getD i 0)) (by simp; omega) hl ?_ ?_ ?_ ?_ ?_
  ·generalize zs.take len = l
   induction l with
   | nil => rfl
   | cons n l ih => exact ih
  ·intro hne
   have h0 : 0 < len := by
    rcases Nat.eq_zero_or_pos len with h0 | h0
    ·subst h0; simp at hne
    ·exact h0
   refine ⟨?_,Dc W _,?_⟩
   ·have := hspot h0
    cases a; simp only at this; subst this; rfl
   ·have hm := hcell 0 (by omega)
    unfold World.cell? at hm
    simp only [Addr.add,if_true] at hm
    split at hm
    ·rename_i heq
     exact (Array.getElem?_eq_some_iff.1 heq).1
    ·cases hm
  ·intro i x hi
   rw [(Qh i x hi).2]; rfl
  ·intro i x j y hi hj
   obtain ⟨hil,rfl⟩ := Qh i x hi
   have hj0 : j = 0 ∧ y = .int k (zs.getD i 0) := by
    cases j with
    | zero => simpa [V.cells,eq_comm] using hj
    | succ j => simp [V.cells] at hj
   obtain ⟨rfl,rfl⟩ := hj0
   have := hcell i (by omega)
   have hs := hspot (by omega)
   have e : a.add i = ⟨a.block,a.off + (i * 1 + 0),none⟩ := by
    unfold Addr.add
    split
    ·rename_i h0; subst h0
     cases a; simp only at hs; subst hs; simp
    ·simp
   rw [← e]
   simpa [start] using this
  ·intro i x j y hi hj
   obtain ⟨hil,rfl⟩ := Qh i x hi
   cases j with
   | zero =>
    have hy : y = .int k (zs.getD i 0) := by simpa [V.cells,eq_comm] using hj
    subst hy
    simp only [Nat.mul_one,Nat.add_zero]
    exact .int _ _
   | succ j => simp [V.cells] at hj
end Go.Ev
end
section
namespace Go.Ev
variable {T : Zc}
theorem Ky : ∀ {cs : List V} {j : Nat} {x : V},Q1 cs = true → cs[j]? = some x → x.clean = true
 | [],j,x,_,h => by simp at h
 | c :: cs,0,x,hc,h => by
  simp only [Q1,Bool.and_eq_true] at hc
  simp at h; subst h; exact hc.1
 | c :: cs,j + 1,x,hc,h => by
  simp only [Q1,Bool.and_eq_true] at hc
  exact Ky hc.2 (by simpa using h)
theorem Rel.alone {S S' : Ctx} (hx : ∀ c,S.free c → c < S.w.heap.size → S'.free c ∧ c < S'.w.heap.size ∧ S'.w.heap[c]? = S.w.heap[c]?) {v : V} {u : Value} (h : Rel S v u) : v.clean = true → Rel S' v u := by
 induction h with
 | junk u => intro hc; simp [V.clean] at hc
 | bool b => intro _; exact .bool b
 | int k n => intro _; exact .int k n
 | str bs => intro _; exact .str bs
 | nilptr => intro _; exact .nilptr
 | ptr i ver off a hi h => intro hc; simp [V.clean] at hc
 | fptr cs c off us hf hlt hcl h1 h2 ih =>
  intro _
  obtain ⟨k1,k2,k3⟩ := hx c hf hlt
  exact .fptr cs c off us k1 k2 hcl (fun j x hj => by rw [cell?_congr k3]; exact h1 j x hj) fun j x hj => ih j x hj (Ky hcl hj)
 | nils => intro _; exact .nils
 | emp a => intro _; exact .emp a
 | vs xs a n cap c off sz us hn hcap hcl ha hsz h1 h2 ih =>
  intro _
  refine .vs xs a n cap c off sz us hn hcap hcl (fun hne => ?_) hsz (fun i x j y hi hj => ?_) fun i x j y hi hj => ih i x j y hi hj (Ky (Dt (Ky hcl hi)) hj)
  ·obtain ⟨a1,a2,a3⟩ := ha hne
   obtain ⟨k1,k2,k3⟩ := hx c a2 a3
   exact ⟨a1,k1,k2⟩
  ·have hne : xs ≠ [] := by rintro rfl; simp at hi
   obtain ⟨a1,a2,a3⟩ := ha hne
   rw [cell?_congr (hx c a2 a3).2.2]; exact h1 i x j y hi hj
 | rs i ver sz off n a cap hi hcap h => intro hc; simp [V.clean] at hc
 | fn f cap us hl h2 ih => intro hc; exact .fn f cap us hl fun j x u hj hu => ih j x u hj hu (Ky (by simpa [V.clean] using hc) hj)
 | nilfn => intro _; exact .nilfn
 | niface => intro _; exact .niface
 | iface t v u h ih => intro hc; exact .iface t v u (ih (by simpa [V.clean] using hc))
 | agg cs us hl h2 ih => intro hc; exact .agg cs us hl fun j x u hj hu => ih j x u hj hu (Ky (by simpa [V.clean] using hc) hj)
 | tup cs us hl h2 ih => intro hc; exact .tup cs us hl fun j x u hj hu => ih j x u hj hu (Ky (by simpa [V.clean] using hc) hj)
 | nilmap => intro _; exact .nilmap
 | mapr i c hi h => intro hc; simp [V.clean] at hc
def Ctx.only (S : Ctx) (w : World) : Ctx := ⟨[],fun _ => 0,fun c => c < w.heap.size ∧ ¬ (S.free c ∧ c < S.w.heap.size),w⟩
theorem GN (S : Ctx) (w : World) (i : Nat) : ¬ (S.only w).live i := by simp [Ctx.only,Ctx.live,QI,Qh]
theorem QeT (S : Ctx) (w : World) {c : Nat} (h : S.free c) (hc : c < S.w.heap.size) : (S.only w).free c :=
 ⟨fun ⟨i,hi,_⟩ => GN S w i hi,fun hz => hz.2 ⟨h,hc⟩⟩
theorem QqL {S : Ctx} (hS : Sim T S) {w : World} (hg : Grew S.w w) : Sim T (S.only w) where
 blk := fun i b h => by simp [Ctx.only,Qh] at h
 inj := fun i j h => (GN S w i h).elim
 zfree := fun i h => (GN S w i h).elim
 zlt := fun c h => h.1
 tab := fun c us hc => by
  obtain ⟨h1,h2,e,fr,h3⟩ := hS.tab c us hc
  exact ⟨QeT S w h1 h2,Nat.lt_of_lt_of_le h2 hg.size,e,fr,(hg.old c h2).trans h3⟩
theorem QkD {S : Ctx} {w : World} (hg : Grew S.w w) {v : V} {u : Value} (h : Rel S v u) (hc : v.clean = true) : Rel (S.only w) v u :=
 h.alone (fun c hf hlt => ⟨QeT S w hf hlt,Nat.lt_of_lt_of_le hlt hg.size,hg.old c hlt⟩) hc
theorem QnI {P : Program} {call : Qr} (hcall : ZI T P call) {f : FuncId} {args : List V} {v : V} (hm : call f args [] = some (.ret v,[])) {S : Ctx} (hS : Sim T S) {w : World} (hg : Grew S.w w) {us : Array Value} (hA : RelA (S.only w) args us) :
  (callFunc f us).run P w = .ok (.enter f us) w ∧ Calls P f us w fun e w' => ∃ u,e = .returned u ∧ Grew w w' ∧ ∃ S',Rel S' v u := by
 obtain ⟨h1,h2⟩ := hcall f args [] _ _ hm (S.only w) us rfl (QqL hS hg) hA
 refine ⟨h1,h2.mono fun e w' he => ?_⟩
 obtain ⟨S',hto,hr⟩ := he
 have hw := hto.w
 subst hw
 match e,hr with
 | .returned u,hr =>
  refine ⟨u,rfl,⟨hto.ext.size,fun c hc => ?_,hto.ext.os,hto.ext.tape,hto.ext.output⟩,S',hr⟩
  by_cases hz : (S.only w).Z c
  ·exact (hto.ext.zed c hz).2
  ·exact (hto.ext.keep c hc ⟨fun ⟨i,hi,_⟩ => GN S w i hi,hz⟩).1
end Go.Ev
namespace Go.Ev
end Go.Ev
end
section
namespace Go.Ev
open Go.Lib
variable {P : Program} {w : World}
theorem T8 : ∀ {l : List (String × DataW Unit)} {ps : List MemPlace} {n : String} {d : DataW Unit},DataW.LaidVars P w l ps → (n,d) ∈ l →
  ∃ g t cs fuel p,P.globalNamed n = some g ∧ (P.globals[g]?).map (·.type) = some t ∧ w.var? P n = some cs ∧ DataW.trod (fun _ => ()) P w 0 (fun _ => true) false fuel t cs.toList = some (d,p)
 | [],ps,n,d,h,hm => by simp at hm
 | (n',d') :: r,ps,n,d,h,hm => by
  obtain ⟨g,t,cs,fuel,p,q,h1,h2,h3,h4,h5,rfl⟩ := h
  rcases List.mem_cons.1 hm with e | hm
  ·injection e with e1 e2
   subst e1; subst e2
   exact ⟨g,t,cs,fuel,p,h1,h2,h3,h4⟩
  ·exact T8 h5 hm
theorem QdC {name : String} {k : IntKind} {zs : List Int} {l : List (String × DataW Unit)} {g : Nat} {t e : TypeId} {n : Nat}
  (hg : P.globalNamed name = some g) (hty : (P.globals[g]?).map (·.type) = some t) (ht : P.underlying t = some (.array n e)) (he : P.underlying e = some (.int k)) (hce : P.cellsOf e = 1) (hct : P.cellsOf t = n)
  (h : laidMet P l w) (hm : (name,tabData k zs) ∈ l) : TabIs P w name k zs := by
 obtain ⟨ps,hv,_⟩ := h
 obtain ⟨g',t',cs,fuel,p,hg',ht',hvar,hd⟩ := T8 hv hm
 obtain rfl := Option.some.inj (hg.symm.trans hg')
 obtain rfl := Option.some.inj (hty.symm.trans ht')
 unfold TabIs
 rw [hvar,← cells_of_tab ht he hce hct hd]
theorem QfU {name : String} {k : IntKind} {zs : List Int} {g : Nat} (hg : P.globalNamed name = some g) (h : TabIs P w name k zs) : ∃ e fr,w.heap[g]? = some (.cells (zs.map fun z => Value.int k z).toArray e fr) := by
 unfold TabIs World.var? at h
 rw [hg] at h
 simp only [Option.bind_some] at h
 split at h
 ·rename_i cs e fr hh
  injection h with h
  subst h
  exact ⟨e,fr,hh⟩
 ·cases h
end Go.Ev
end
