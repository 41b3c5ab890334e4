/- EvG: a part of the proof that each law of this seat answers true at every input. No condition. -/
import Derived.Test.YtjnnegacjmcdbaaEvF
import Derived.Lib.Bytealg
import Derived.ProofKit
import Derived.OpenShut
set_option linter.unusedVariables false
set_option linter.unusedSimpArgs false
section
/- Functions of Go's library that are taken by what they say: that they say so. -/
namespace Go.Ev
open Go
theorem idxB_eq (s : List UInt8) {c : Int} (h0 : 0 ≤ c) (h1 : c ≤ 255) : idxB s c = Lib.indexByte s c.toNat.toUInt8 := by
  induction s with
  | nil => rfl
  | cons b s ih =>
    have hge := Lib.indexByte_ge s c.toNat.toUInt8
    have he : ((b.toNat : Int) = c) ↔ ((b == c.toNat.toUInt8) = true) := by
      rw [beq_iff_eq]
      constructor
      · intro h
        subst h
        simp
      · intro h
        subst h
        simp [UInt8.toNat_ofNat', Nat.toUInt8]
        omega
    unfold idxB Lib.indexByte
    by_cases h : (b.toNat : Int) = c
    · rw [if_pos h, if_pos (he.1 h)]
    · rw [if_neg h, if_neg (fun x => h (he.2 x)), ih]
      by_cases hm : Lib.indexByte s c.toNat.toUInt8 < 0
      · rw [if_pos hm, if_pos (beq_iff_eq.2 (by omega))]
      · rw [if_neg hm, if_neg (fun x => by have := beq_iff_eq.1 x; omega)]
theorem enters {P : Program} {f : FuncId} {fn : Func} (hf : P.funcs[f]? = some fn) (hb : fn.body.isSome = true) (hn : (fn.name == "runtime.NumGoroutine") = false) (args : Array Value) (w : World) : (callFunc f args).run P w = .ok (.enter f args) w := by
  obtain ⟨c, hc⟩ := Option.isSome_iff_exists.1 hb
  have h1 : fn.name ≠ "runtime.NumGoroutine" := by simpa using hn
  simp [callFunc, hf, h1, hc, mark]
theorem iIndexByte_mod {P : Program} {f : FuncId} (h : ∀ (s : ByteArray) (c : Int) (w : World), Calls P f #[.string s, .int .u8 c] w fun e w' => e = .returned (.int .i64 (Lib.indexByte s.data.toList c.toNat.toUInt8)) ∧ w' = w)
    (hen : ∀ args w, (callFunc f args).run P w = .ok (.enter f args) w) : Mod P f iIndexByte := by
  intro args H r H' hm S uargs hH hS hA
  refine ⟨hen _ _, ?_⟩
  unfold iIndexByte at hm
  split at hm
  · rename_i s c
    split at hm
    · rename_i hc
      simp only [Option.some.injEq, Prod.mk.injEq] at hm
      obtain ⟨rfl, rfl⟩ := hm
      have h2 := hA.size
      simp at h2
      have hg0 : ∃ bs : ByteArray, uargs[0]? = some (.string bs) ∧ s = bs.data.toList := by
        have hr := hA.get 0 _ uargs[0] rfl (by simp [h2])
        generalize hu : uargs[0] = u at hr
        cases hr with
        | str bs => exact ⟨bs, by simp [h2, hu], rfl⟩
      have hg1 : uargs[1]? = some (.int .u8 c) := by
        have hr := hA.get 1 _ uargs[1] rfl (by simp [h2])
        generalize hu : uargs[1] = u at hr
        cases hr with
        | int => simp [h2, hu]
      obtain ⟨bs, hg0, rfl⟩ := hg0
      have hu : uargs = #[.string bs, .int .u8 c] := by
        apply Array.ext (by simp [h2])
        intro i hi hj
        match i with
        | 0 => simpa [h2] using hg0
        | 1 => simpa [h2] using hg1
        | i + 2 => omega
      rw [hu]
      refine (h bs c S.w).mono fun e w' he => ?_
      obtain ⟨rfl, rfl⟩ := he
      rw [← idxB_eq _ hc.1 hc.2]
      subst hH
      exact ⟨S, ⟨rfl, rfl, rfl, Ext.refl S, hS, Bd.refl _ _⟩, .int _ _⟩
    · cases hm
  · cases hm
end Go.Ev
end

section
/- From the evaluator's answer to a row's statement. -/
namespace Go.Ev
open Go Go.RowKit Go.ChangeShapes Go.WideShapes
set_option linter.unusedVariables false

def start (W : World) : Ctx := ⟨[], fun _ => 0, fun _ => False, W⟩
theorem start_sim (W : World) : Sim (start W) := ⟨fun i b h => by simp [start, hget] at h, fun i j h => by simp [start, Ctx.live, curVer, hget] at h, fun i h => by simp [start, Ctx.live, curVer, hget] at h, fun c h => h.elim⟩
theorem start_free (W : World) (c : Nat) : (start W).free c := ⟨fun h => by obtain ⟨i, h, _⟩ := h; simp [start, Ctx.live, curVer, hget] at h, fun h => h⟩
theorem start_below {W : World} {S' : Ctx} (h : Ext (start W) S') : Below W.heap.size W S'.w :=
  ⟨h.os, h.tape, h.output, h.size, fun k hk => (h.keep k hk (start_free W k)).1⟩

theorem law_run {P : Program} {c : CallO} (hok : CallOK P c) {f : FuncId} {vs : List V} {us : Array Value} {W : World} (he : c f vs [] = some (.ret (.bool true), [])) (hA : RelA (start W) vs us) :
    Calls P f us W fun e W' => e = .returned (.bool true) ∧ Below W.heap.size W W' := by
  refine (hok f vs [] _ _ he (start W) us rfl (start_sim W) hA).2.mono fun e W' h => ?_
  obtain ⟨S', h1, h2⟩ := h
  have hb := start_below h1.ext
  rw [h1.w] at hb
  refine ⟨?_, hb⟩
  cases e with
  | returned u =>
    have h2 : Rel S' (.bool true) u := h2
    cases h2; rfl
  | _ => exact h2.elim

/-- Arguments read as they read; the answer is true. -/
theorem trods_below {H : Type} {enc : TypeId × Value → H} {P : Program} (hl : laidOutB P = true) {W W' : World} (hb : Below W.heap.size W W') : ∀ (ts : List TypeId) {vs : List Value} {ds : List (DataW H)} {ps : List MemPlace},
    (∀ t ∈ ts, P.readableRec t = true ∧ t < P.types.size) → DataW.TrodAll enc P W 0 (fun _ => true) true ts vs ds ps → (∀ x ∈ ps, x.block < W.heap.size) → DataW.TrodAll enc P W' 0 (fun b => decide (b < W.heap.size)) true ts vs ds ps
  | [], vs, ds, ps, hr, h, hlt => by
    obtain ⟨rfl, rfl, rfl⟩ := trodAll_nil h
    exact trodAll_mk0
  | t :: ts, vs, ds, ps, hr, h, hlt => by
    obtain ⟨v, vs', d, ds', p, q, rfl, rfl, rfl, h0, h1⟩ := trodAll_cons h
    have hr0 := hr t (by simp)
    exact trodAll_cons_mk (Below.trod hl hr0.1 hr0.2 h0 hb (fun x hx => hlt x (List.mem_append_left _ hx))) (trods_below hl hb ts (fun t ht => hr t (by simp [ht])) h1 (fun x hx => hlt x (List.mem_append_right _ hx)))
theorem below_kept {W W' : World} (hb : Below W.heap.size W W') (may : MemPlace → Prop) : W.keptBut W' may := by
  refine ⟨hb.os, hb.output, fun i hi => ?_⟩
  rw [hb.block i hi]
  cases W.heap[i]? with
  | none => rfl
  | some o => cases o <;> simp
theorem law_post {H : Type} {enc : TypeId × Value → H} {P : Program} (hl : laidOutB P = true) {f : Func} {s : ChangeSpec} {fresh handsOn : Bool} {W W' : World} {args : Array Value} {ds gs : List (DataW H)} {before : List MemPlace} {tb : TypeId}
    (hW : DataW.Whole enc P f.params.toList s.vars false W args.toList ds gs before) (hv : s.vars = []) (hr0 : (f.params.toList.all fun t => P.readableRec t && decide (t < P.types.size)) = true)
    (hb : Below W.heap.size W W') (hres : f.resultTypes = #[tb]) (htb : P.underlying tb = some .bool) (h1 : (s.fn H (ds ++ gs)).results = [.lit (.bool true)]) (h2 : (s.fn H (ds ++ gs)).args = ds) (h3 : (s.fn H (ds ++ gs)).vars = []) :
    s.post enc P f false fresh handsOn false W args (.bool true) W' := by
  have hr : ∀ t ∈ f.params.toList, P.readableRec t = true ∧ t < P.types.size := fun t ht => by simpa using List.all_eq_true.1 hr0 t ht
  have hlt := hW.lt
  obtain ⟨p, q, hA, hV, hps, hz, hn⟩ := id hW
  rw [hv] at hV
  obtain ⟨rfl, rfl⟩ := trodVars_none hV
  refine ⟨ds, [], before, [], p, [], hW, ?_, ?_, ?_, below_kept hb _, fun h => by cases h⟩
  · rw [hres, h1]
    exact trodAll_mk1 (shut_bool htb _)
  · rw [h2]
    exact trods_below hl hb _ hr hA (fun x hx => hlt x (by rw [hps]; exact List.mem_append_left _ hx))
  · rw [h3, hv]; rfl

inductive RelL (S : Ctx) : List V → List Value → Prop
  | nil : RelL S [] []
  | cons {v : V} {u : Value} {vs : List V} {us : List Value} : Rel S v u → RelL S vs us → RelL S (v :: vs) (u :: us)
theorem RelL.get {S : Ctx} {vs : List V} {us : List Value} (h : RelL S vs us) : us.length = vs.length ∧ ∀ (j : Nat) (x : V) (u : Value), vs[j]? = some x → us[j]? = some u → Rel S x u := by
  induction h with
  | nil => exact ⟨rfl, fun j x u h => by simp at h⟩
  | cons h0 _ ih =>
    refine ⟨by simp [ih.1], fun j x u h1 h2 => ?_⟩
    cases j with
    | zero => simp at h1 h2; subst h1; subst h2; exact h0
    | succ j => exact ih.2 j x u (by simpa using h1) (by simpa using h2)
theorem RelL.arr {S : Ctx} {vs : List V} {us : List Value} (h : RelL S vs us) : RelA S vs us.toArray := ⟨by simp [h.get.1], fun j x u h1 h2 => h.get.2 j x u h1 (by simpa using h2)⟩
/-! What an argument is. -/
theorem rel_ints {H : Type} {enc : TypeId × Value → H} {P : Program} {W : World} {r : Reach} {b0 : Nat} {t e : TypeId} {k : IntKind} {v : Value} {d : DataW H} {ps : List MemPlace} (ht : P.underlying t = some (.slice e)) (he : P.underlying e = some (.int k)) (hc : P.cellsOf e = 1)
    (hval : Value.okWide P W r b0 t v) (h : DataW.Trod enc P W 0 (fun _ => true) true t v d ps) (hlt : ∀ x ∈ ps, x.block < W.heap.size) : ∃ zs : List Int, Rel (start W) (.vs (zs.map (V.int k))) v ∧ (∀ n ∈ zs, (Lit.int k n).wf = true) ∧ zs.length ≤ maxLen := by
  obtain ⟨fuel, hf⟩ := h
  have hvc : ∀ x, v.cells.toList = [x] → v = x := by
    intro x hx
    obtain ⟨a, len, cap, rfl⟩ := okWide_slice ht hval
    simpa [Value.cells] using hx
  rcases open_ints ht he hc hf with ⟨hcs, hx⟩ | ⟨a, len, cap, zs, hcs, _, hl, hm, hz, hx, hcell, hwz⟩
  · refine ⟨[], ?_, by simp, by simp⟩
    rw [hvc _ hcs]
    exact .vs [] none 0 0 0 0 0 (fun _ => .nilFunc) rfl (Nat.le_refl _) rfl (fun h => absurd rfl h) (by simp) (by simp) (by simp)
  · simp only [if_true] at hz
    have hspot : 0 < len → a.spot = none := by
      intro h0
      have := hcell 0 (by omega)
      unfold World.cell? at this
      simp only [Addr.add, if_true] at this
      cases hs : a.spot with
      | none => rfl
      | some _ => rw [hs] at this; split at this <;> simp at this
    refine ⟨zs.take len, ?_, fun n hn => hwz n (List.mem_of_mem_take hn), by simp; omega⟩
    rw [hvc _ hcs]
    have hlen : (zs.take len).length = len := by simp; omega
    have hget : ∀ (i : Nat) (x : V), ((zs.take len).map (V.int k))[i]? = some x → i < len ∧ x = .int k (zs.getD i 0) := by
      intro i x hi
      rw [List.getElem?_map] at hi
      cases hq : (zs.take len)[i]? with
      | none => rw [hq] at hi; cases hi
      | some n =>
        rw [hq] at hi
        have hil := (List.getElem?_eq_some_iff.1 hq).1
        rw [hlen] at hil
        rw [List.getElem?_take, if_pos hil] at hq
        refine ⟨hil, ?_⟩
        simp only [Option.map_some, Option.some.injEq] at hi
        rw [← hi, List.getD_eq_getElem?_getD, hq]; rfl
    refine .vs _ (some a) len cap a.block a.off 1 (fun i => .int k (zs.getD i 0)) (by simp; omega) hl ?_ ?_ ?_ ?_ ?_
    · generalize zs.take len = l
      induction l with
      | nil => rfl
      | cons n l ih => exact ih
    · intro hne
      have h0 : 0 < len := by
        rcases Nat.eq_zero_or_pos len with h0 | h0
        · subst h0; simp at hne
        · exact h0
      refine ⟨?_, start_free W _, ?_⟩
      · have := hspot h0
        cases a; simp only at this; subst this; rfl
      · have hm := hcell 0 (by omega)
        unfold World.cell? at hm
        simp only [Addr.add, if_true] at hm
        split at hm
        · rename_i heq
          exact (Array.getElem?_eq_some_iff.1 heq).1
        · cases hm
    · intro i x hi
      rw [(hget i x hi).2]; rfl
    · intro i x j y hi hj
      obtain ⟨hil, rfl⟩ := hget i x hi
      have hj0 : j = 0 ∧ y = .int k (zs.getD i 0) := by
        cases j with
        | zero => simpa [V.cells, eq_comm] using hj
        | succ j => simp [V.cells] at hj
      obtain ⟨rfl, rfl⟩ := hj0
      have := hcell i (by omega)
      have hs := hspot (by omega)
      have e : a.add i = ⟨a.block, a.off + (i * 1 + 0), none⟩ := by
        unfold Addr.add
        split
        · rename_i h0; subst h0
          cases a; simp only at hs; subst hs; simp
        · simp
      rw [← e]
      simpa [start] using this
    · intro i x j y hi hj
      obtain ⟨hil, rfl⟩ := hget i x hi
      cases j with
      | zero =>
        have hy : y = .int k (zs.getD i 0) := by simpa [V.cells, eq_comm] using hj
        subst hy
        simp only [Nat.mul_one, Nat.add_zero]
        exact .int _ _
      | succ j => simp [V.cells] at hj
end Go.Ev
end

