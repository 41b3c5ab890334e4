/- EvG: a part of the proof that each law of this seat answers true at every input. No condition. -/
import Derived.Test.YthcjjicplodhjaaDoorEvF
import Derived.Lib.Bytealg
import Derived.Lib.LaidTab
import Derived.Below
import Derived.WalkSmall
import Derived.Sort.Grow
import Derived.ProofKit
import Derived.OpenShut
import Derived.Lib.LaidCaseMet
set_option linter.unusedVariables false
set_option linter.unusedSimpArgs false
section
/- Functions of Go's library that are taken by what they say: that they say so. -/
namespace Go.Ev
variable {T : Tabs}
open Go Go.RowKit
open Go.Sort (grow)
theorem idxB_eq (s : List UInt8) {c : Int} (h0 : 0 ≤ c) (h1 : c ≤ 255) : idxB s c = Lib.indexByte s c.toNat.toUInt8 := by
  induction s with
  | nil => rfl
  | cons b s ih =>
    have hge := Lib.indexByte_ge s c.toNat.toUInt8
    have he : ((b.toNat : Int) = c) ↔ ((b == c.toNat.toUInt8) = true) := by
      rw [beq_iff_eq]
      constructor
      · intro h
        subst h
        simp
      · intro h
        subst h
        simp [UInt8.toNat_ofNat', Nat.toUInt8]
        omega
    unfold idxB Lib.indexByte
    by_cases h : (b.toNat : Int) = c
    · rw [if_pos h, if_pos (he.1 h)]
    · rw [if_neg h, if_neg (fun x => h (he.2 x)), ih]
      by_cases hm : Lib.indexByte s c.toNat.toUInt8 < 0
      · rw [if_pos hm, if_pos (beq_iff_eq.2 (by omega))]
      · rw [if_neg hm, if_neg (fun x => by have := beq_iff_eq.1 x; omega)]
theorem enters {P : Program} {f : FuncId} {fn : Func} (hf : P.funcs[f]? = some fn) (hb : fn.body.isSome = true) (hn : (fn.name == "runtime.NumGoroutine") = false) (args : Array Value) (w : World) : (callFunc f args).run P w = .ok (.enter f args) w := by
  obtain ⟨c, hc⟩ := Option.isSome_iff_exists.1 hb
  have h1 : fn.name ≠ "runtime.NumGoroutine" := by simpa using hn
  simp [callFunc, hf, h1, hc, mark]
theorem iIndexByte_mod {P : Program} {f : FuncId} (h : ∀ (s : ByteArray) (c : Int) (w : World), Calls P f #[.string s, .int .u8 c] w fun e w' => e = .returned (.int .i64 (Lib.indexByte s.data.toList c.toNat.toUInt8)) ∧ w' = w)
    (hen : ∀ args w, (callFunc f args).run P w = .ok (.enter f args) w) : Mod T P f iIndexByte := by
  intro args H r H' hm S uargs hH hS hA
  refine ⟨hen _ _, ?_⟩
  unfold iIndexByte at hm
  split at hm
  · rename_i s c
    split at hm
    · rename_i hc
      simp only [Option.some.injEq, Prod.mk.injEq] at hm
      obtain ⟨rfl, rfl⟩ := hm
      have h2 := hA.size
      simp at h2
      have hg0 : ∃ bs : ByteArray, uargs[0]? = some (.string bs) ∧ s = bs.data.toList := by
        have hr := hA.get 0 _ uargs[0] rfl (by simp [h2])
        generalize hu : uargs[0] = u at hr
        cases hr with
        | str bs => exact ⟨bs, by simp [h2, hu], rfl⟩
      have hg1 : uargs[1]? = some (.int .u8 c) := by
        have hr := hA.get 1 _ uargs[1] rfl (by simp [h2])
        generalize hu : uargs[1] = u at hr
        cases hr with
        | int => simp [h2, hu]
      obtain ⟨bs, hg0, rfl⟩ := hg0
      have hu : uargs = #[.string bs, .int .u8 c] := by
        apply Array.ext (by simp [h2])
        intro i hi hj
        match i with
        | 0 => simpa [h2] using hg0
        | 1 => simpa [h2] using hg1
        | i + 2 => omega
      rw [hu]
      refine (h bs c S.w).mono fun e w' he => ?_
      obtain ⟨rfl, rfl⟩ := he
      rw [← idxB_eq _ hc.1 hc.2]
      subst hH
      exact ⟨S, ⟨rfl, rfl, rfl, Ext.refl S, hS, Bd.refl _ _⟩, .int _ _⟩
    · cases hm
  · cases hm

theorem rel_str_mk (S : Ctx) (l : List UInt8) : Rel S (.str l) (.string ⟨l.toArray⟩) := by
  have := Rel.str (S := S) ⟨l.toArray⟩
  simpa using this
theorem below_grew {w w' : World} (h : Below w.heap.size w w') : Grew w w' := ⟨h.size, fun c hc => h.block c hc, h.os, h.tape, h.output⟩
/-- What reads, and changes nothing. -/
theorem rd_mod {P : Program} {f : FuncId} {g : List V → Heap → Option V} (h : ∀ args H v, g args H = some v → ∀ (S : Ctx) (uargs : Array Value), S.H = H → Sim T S → RelA S args uargs →
      Calls P f uargs S.w fun e w' => ∃ u, e = .returned u ∧ Below S.w.heap.size S.w w' ∧ ∀ S', Ext S S' → Rel S' v u)
    (hen : ∀ args w, (callFunc f args).run P w = .ok (.enter f args) w) : Mod T P f (iRd g) := by
  intro args H r H' hm S uargs hH hS hA
  refine ⟨hen _ _, ?_⟩
  unfold iRd at hm
  obtain ⟨v, h1, h2⟩ := Option.map_eq_some_iff.1 hm
  injection h2 with h2 h3
  subst h2
  subst h3
  subst hH
  refine (h args _ v h1 S uargs rfl hS hA).mono fun e w' he => ?_
  obtain ⟨u, rfl, hb, hr⟩ := he
  have hg := below_grew hb
  exact ⟨S.at w', ⟨rfl, rfl, rfl, at_ext hS hg, at_sim hS hg, Bd.refl _ _⟩, hr _ (at_ext hS hg)⟩
theorem RelA.one {S : Ctx} {v : V} {us : Array Value} (h : RelA S [v] us) : ∃ u, us = #[u] ∧ Rel S v u := by
  have h2 := h.size
  simp at h2
  refine ⟨us[0], ?_, h.get 0 v us[0] rfl (by simp [h2])⟩
  apply Array.ext (by simp [h2])
  intro i hi hj
  match i with
  | 0 => rfl
  | i + 1 => simp at hj
theorem RelA.two {S : Ctx} {v v' : V} {us : Array Value} (h : RelA S [v, v'] us) : ∃ u u', us = #[u, u'] ∧ Rel S v u ∧ Rel S v' u' := by
  have h2 := h.size
  simp at h2
  refine ⟨us[0], us[1], ?_, h.get 0 v us[0] rfl (by simp [h2]), h.get 1 v' us[1] rfl (by simp [h2])⟩
  apply Array.ext (by simp [h2])
  intro i hi hj
  match i with
  | 0 => rfl
  | 1 => rfl
  | i + 2 => simp at hj; omega
theorem rel_str_inv {S : Ctx} {l : List UInt8} {u : Value} (h : Rel S (.str l) u) : ∃ bs : ByteArray, u = .string bs ∧ l = bs.data.toList := by
  cases h with
  | str bs => exact ⟨bs, rfl, rfl⟩
theorem rel_int_inv {S : Ctx} {k : IntKind} {n : Int} {u : Value} (h : Rel S (.int k n) u) : u = .int k n := by cases h; rfl
theorem str_size (bs : ByteArray) : bs.size = bs.data.toList.length := by simp

theorem itoa_mod {P : Program} {f : FuncId} (h : ∀ (n : Int), -9223372036854775808 ≤ n → n ≤ 9223372036854775807 → ∀ w : World, Lib.TabIs P w "internal/strconv.uint64pow10" .u64 Lib.pow10Tab →
      Calls P f #[.int .i64 n] w fun e w' => e = .returned (.string ⟨(Lib.itoa n).toArray⟩) ∧ ∃ k os, w' = grow (w.drewN k) os)
    (hT : ∀ S : Ctx, Sim T S → Lib.TabIs P S.w "internal/strconv.uint64pow10" .u64 Lib.pow10Tab) (hen : ∀ args w, (callFunc f args).run P w = .ok (.enter f args) w) : Mod T P f (iRd gItoa) := by
  refine rd_mod (fun args H v hv S uargs hH hS hA => ?_) hen
  unfold gItoa at hv
  split at hv
  · rename_i n
    split at hv
    · rename_i hn
      injection hv with hv
      subst hv
      obtain ⟨u, rfl, hu⟩ := hA.one
      rw [rel_int_inv hu]
      refine (h n hn.1 hn.2 S.w (hT S hS)).mono fun e w' he => ?_
      obtain ⟨rfl, k, os, rfl⟩ := he
      refine ⟨_, rfl, ⟨rfl, rfl, rfl, by simp [grow, World.drewN], fun i hi => ?_⟩, fun S' _ => rel_str_mk S' _⟩
      simp only [grow]
      rw [Array.getElem?_append_left (by simpa [World.drewN] using hi)]; rfl
    · simp at hv
  · simp at hv
theorem upper_mod {P : Program} {f : FuncId} (h : ∀ (s : ByteArray) (w : World), s.size ≤ 140737488355328 → (∀ (j : Nat) (b : UInt8), s.data.toList[j]? = some b → b.toNat < 128) →
      Calls P f #[.string s] w fun e w' => e = .returned (.string ⟨(Lib.toUpperA s.data.toList).toArray⟩) ∧ Below w.heap.size w w')
    (hen : ∀ args w, (callFunc f args).run P w = .ok (.enter f args) w) : Mod T P f (iRd gUpper) := by
  refine rd_mod (fun args H v hv S uargs hH hS hA => ?_) hen
  unfold gUpper at hv
  split at hv
  · rename_i s
    split at hv
    · rename_i hs
      injection hv with hv
      subst hv
      obtain ⟨u, rfl, hu⟩ := hA.one
      obtain ⟨bs, rfl, rfl⟩ := rel_str_inv hu
      refine (h bs S.w (by rw [str_size]; exact hs.1) (fun j b hj => ?_)).mono fun e w' he => ?_
      · have := List.all_eq_true.1 hs.2 b (List.mem_of_getElem? hj)
        simpa using this
      · obtain ⟨rfl, hb⟩ := he
        exact ⟨_, rfl, hb, fun S' _ => rel_str_mk S' _⟩
    · simp at hv
  · simp at hv
theorem strsV_get : ∀ {cs : List V} {l : List (List UInt8)}, strsV cs = some l → cs = l.map V.str
  | [], l, h => by simp [strsV] at h; subst h; rfl
  | v :: cs, l, h => by
    cases v with
    | str s =>
      simp only [strsV] at h
      obtain ⟨r, h1, h2⟩ := Option.map_eq_some_iff.1 h
      subst h2
      rw [strsV_get h1]; rfl
    | _ => simp [strsV] at h
theorem join_mod {P : Program} {f : FuncId} (h0 : ∀ (a : Option Addr) (c : Nat) (sep : ByteArray) (w : World), Calls P f #[.slice a 0 c, .string sep] w fun e w' => e = .returned (.string ⟨#[]⟩) ∧ w' = w)
    (h : ∀ (bk o c : Nat) (xs : List ByteArray) (sep : ByteArray) (w : World), (∀ (j : Nat) x, xs[j]? = some x → w.cell? ⟨bk, o + j, none⟩ = some (.string x)) → bk < w.heap.size → xs.length ≤ 140737488355328 → xs.length ≤ c →
        (Lib.join (xs.map (·.data.toList)) sep.data.toList).length ≤ 140737488355328 →
      Calls P f #[.slice (some ⟨bk, o, none⟩) xs.length c, .string sep] w fun e w' => e = .returned (.string ⟨(Lib.join (xs.map (·.data.toList)) sep.data.toList).toArray⟩) ∧ Below w.heap.size w w')
    (hen : ∀ args w, (callFunc f args).run P w = .ok (.enter f args) w) : Mod T P f (iRd gJoin) := by
  refine rd_mod (fun args H v hv S uargs hH hS hA => ?_) hen
  subst hH
  unfold gJoin at hv
  split at hv
  · rename_i x sep
    cases hk : slLen x with
    | none => simp [hk] at hv
    | some n =>
    cases hc : slCells 1 S.H x with
    | none => simp [hk, hc] at hv
    | some cs =>
    cases hl : strsV cs with
    | none => simp [hk, hc, hl] at hv
    | some l =>
    simp only [hk, hc, hl, Option.bind_some] at hv
    split at hv
    · rename_i hb
      injection hv with hv
      subst hv
      obtain ⟨u, u', rfl, hu, hu'⟩ := hA.two
      obtain ⟨sb, rfl, rfl⟩ := rel_str_inv hu'
      obtain ⟨e1, p, cap, rfl, hz, hcell⟩ := slCells_rel hS hu hk hc
      have e2 := strsV_get hl
      subst e2
      simp only [List.length_map, Nat.mul_one] at e1
      subst e1
      have hcap : l.length ≤ cap := by
        clear hcell hz
        generalize l.length = L at hu
        cases hu <;> first | assumption | exact Nat.zero_le _ | (simp [slLen] at hk)
      cases l with
      | nil =>
        refine (h0 p cap sb S.w).mono fun e w' he => ?_
        obtain ⟨rfl, rfl⟩ := he
        exact ⟨_, rfl, Below.refl _ _, fun S' _ => by simpa [Lib.join_nil] using rel_str_mk S' []⟩
      | cons s l =>
        cases p with
        | none => have := hz rfl; simp at this
        | some ad =>
          have hget : ∀ (j : Nat) (s' : List UInt8), (s :: l)[j]? = some s' → ∃ bs : ByteArray, S.w.cell? (ad.add j) = some (.string bs) ∧ s' = bs.data.toList := fun j s' hj => by
            obtain ⟨u1, k1, k2⟩ := hcell ad rfl j (.str s') (by rw [List.getElem?_map, hj]; rfl)
            obtain ⟨bs, rfl, rfl⟩ := rel_str_inv k2
            exact ⟨bs, k1, rfl⟩
          have hex : ∃ xs : List ByteArray, xs.map (·.data.toList) = s :: l ∧ ∀ (j : Nat) x, xs[j]? = some x → S.w.cell? (ad.add j) = some (.string x) := by
            refine ⟨(s :: l).map fun s' => ⟨s'.toArray⟩, by simp [Function.comp_def], fun j x hj => ?_⟩
            rw [List.getElem?_map] at hj
            obtain ⟨s', h1, h2⟩ := Option.map_eq_some_iff.1 hj
            obtain ⟨bs, k1, k2⟩ := hget j s' h1
            subst h2
            rw [k1, k2]
          obtain ⟨xs, hx1, hx2⟩ := hex
          have hlen : xs.length = (s :: l).length := by rw [← hx1]; simp
          have hsp : ad.spot = none := by
            obtain ⟨bs, k1, _⟩ := hget 0 s rfl
            unfold World.cell? at k1
            simp only [Addr.add, if_true] at k1
            cases hs : ad.spot with
            | none => rfl
            | some _ => rw [hs] at k1; split at k1 <;> simp at k1
          have hadd : ∀ j, ad.add j = ⟨ad.block, ad.off + j, none⟩ := fun j => by
            unfold Addr.add
            split
            · rename_i h0; subst h0; cases ad; simp only at hsp; subst hsp; simp
            · rfl
          have had : ad = ⟨ad.block, ad.off, none⟩ := by cases ad; simp only at hsp; subst hsp; rfl
          have hbk : ad.block < S.w.heap.size := by
            obtain ⟨bs, k1, _⟩ := hget 0 s rfl
            have := World.block_lt_of_cell? _ _ k1
            rwa [hadd] at this
          have key := h ad.block ad.off cap xs sb S.w (fun j x hj => by rw [← hadd]; exact hx2 j x hj) hbk (by omega) (by omega) (by rw [hx1]; exact hb.2)
          rw [← had, hlen, hx1] at key
          refine key.mono fun e w' he => ?_
          obtain ⟨rfl, hbw⟩ := he
          exact ⟨_, rfl, hbw, fun S' _ => rel_str_mk S' _⟩
    · simp at hv
  · simp at hv
theorem tz_mod {P : Program} {f : FuncId} (h : ∀ (x : Int) (w : World), 0 ≤ x → x ≤ 18446744073709551615 → Lib.TabIs P w "math/bits.deBruijn64tab" .u8 tzTab →
      Calls P f #[.int .u64 x] w fun e w' => e = .returned (.int .i64 (if x = 0 then 64 else tzTab.getD (tzIdx x).toNat 0)) ∧ Below w.heap.size w w')
    (hT : ∀ S : Ctx, Sim T S → Lib.TabIs P S.w "math/bits.deBruijn64tab" .u8 tzTab) (hen : ∀ args w, (callFunc f args).run P w = .ok (.enter f args) w) : Mod T P f (iRd gTZ) := by
  refine rd_mod (fun args H v hv S uargs hH hS hA => ?_) hen
  unfold gTZ at hv
  split at hv
  · rename_i x
    split at hv
    · rename_i hn
      injection hv with hv
      subst hv
      obtain ⟨u, rfl, hu⟩ := hA.one
      rw [rel_int_inv hu]
      refine (h x S.w hn.1 hn.2 (hT S hS)).mono fun e w' he => ?_
      obtain ⟨rfl, hb⟩ := he
      exact ⟨_, rfl, hb, fun S' _ => .int _ _⟩
    · simp at hv
  · simp at hv
/-- Laid variables, by their names. -/
theorem tab_of {P : Program} {S : Ctx} (hS : Sim T S) {name : String} {k : IntKind} {zs : List Int} {g : Nat} (hg : P.globalNamed name = some g) (ht : T g (zs.map fun z => Value.int k z).toArray) : Lib.TabIs P S.w name k zs := by
  obtain ⟨_, _, e, fr, h⟩ := hS.tab g _ ht
  unfold Lib.TabIs World.var?
  rw [hg]
  simp only [Option.bind_some, h]
end Go.Ev
end

section
/- From the evaluator's answer to a row's statement. -/
namespace Go.Ev
open Go Go.RowKit Go.ChangeShapes Go.WideShapes
set_option linter.unusedVariables false
variable {T : Tabs}

def start (W : World) : Ctx := ⟨[], fun _ => 0, fun _ => False, W⟩
theorem start_free (W : World) (c : Nat) : (start W).free c := ⟨fun h => by obtain ⟨i, h, _⟩ := h; simp [start, Ctx.live, curVer, hget] at h, fun h => h⟩
/-- What is laid, lies there. -/
def Laid (T : Tabs) (W : World) : Prop := ∀ c us, T c us → ∃ e fr, W.heap[c]? = some (.cells us e fr)
theorem start_sim {W : World} (hT : Laid T W) : Sim T (start W) := ⟨fun i b h => by simp [start, hget] at h, fun i j h => by simp [start, Ctx.live, curVer, hget] at h, fun i h => by simp [start, Ctx.live, curVer, hget] at h, fun c h => h.elim,
  fun c us h => by
    obtain ⟨e, fr, h1⟩ := hT c us h
    exact ⟨start_free W c, (Array.getElem?_eq_some_iff.1 h1).1, e, fr, h1⟩⟩
theorem start_below {W : World} {S' : Ctx} (h : Ext (start W) S') : Below W.heap.size W S'.w :=
  ⟨h.os, h.tape, h.output, h.size, fun k hk => (h.keep k hk (start_free W k)).1⟩

theorem law_run {P : Program} {c : CallO} (hok : CallOK T P c) {f : FuncId} {vs : List V} {us : Array Value} {W : World} (hT : Laid T W) (he : c f vs [] = some (.ret (.bool true), [])) (hA : RelA (start W) vs us) :
    Calls P f us W fun e W' => e = .returned (.bool true) ∧ Below W.heap.size W W' := by
  refine (hok f vs [] _ _ he (start W) us rfl (start_sim hT) hA).2.mono fun e W' h => ?_
  obtain ⟨S', h1, h2⟩ := h
  have hb := start_below h1.ext
  rw [h1.w] at hb
  refine ⟨?_, hb⟩
  cases e with
  | returned u =>
    have h2 : Rel S' (.bool true) u := h2
    cases h2; rfl
  | _ => exact h2.elim

/-- Arguments read as they read; the answer is true. -/
theorem trods_below {H : Type} {enc : TypeId × Value → H} {P : Program} (hl : laidOutB P = true) {W W' : World} (hb : Below W.heap.size W W') : ∀ (ts : List TypeId) {vs : List Value} {ds : List (DataW H)} {ps : List MemPlace},
    (∀ t ∈ ts, P.readableRec t = true ∧ t < P.types.size) → DataW.TrodAll enc P W 0 (fun _ => true) true ts vs ds ps → (∀ x ∈ ps, x.block < W.heap.size) → DataW.TrodAll enc P W' 0 (fun b => decide (b < W.heap.size)) true ts vs ds ps
  | [], vs, ds, ps, hr, h, hlt => by
    obtain ⟨rfl, rfl, rfl⟩ := trodAll_nil h
    exact trodAll_mk0
  | t :: ts, vs, ds, ps, hr, h, hlt => by
    obtain ⟨v, vs', d, ds', p, q, rfl, rfl, rfl, h0, h1⟩ := trodAll_cons h
    have hr0 := hr t (by simp)
    exact trodAll_cons_mk (Below.trod hl hr0.1 hr0.2 h0 hb (fun x hx => hlt x (List.mem_append_left _ hx))) (trods_below hl hb ts (fun t ht => hr t (by simp [ht])) h1 (fun x hx => hlt x (List.mem_append_right _ hx)))
theorem below_kept {W W' : World} (hb : Below W.heap.size W W') (may : MemPlace → Prop) : W.keptBut W' may := by
  refine ⟨hb.os, hb.output, fun i hi => ?_⟩
  rw [hb.block i hi]
  cases W.heap[i]? with
  | none => rfl
  | some o => cases o <;> simp
theorem law_post {H : Type} {enc : TypeId × Value → H} {P : Program} (hl : laidOutB P = true) {f : Func} {s : ChangeSpec} {fresh handsOn : Bool} {W W' : World} {args : Array Value} {ds gs : List (DataW H)} {before : List MemPlace} {tb : TypeId}
    (hW : DataW.Whole enc P f.params.toList s.vars false W args.toList ds gs before) (hv : s.vars = []) (hr0 : (f.params.toList.all fun t => P.readableRec t && decide (t < P.types.size)) = true)
    (hb : Below W.heap.size W W') (hres : f.resultTypes = #[tb]) (htb : P.underlying tb = some .bool) (h1 : (s.fn H (ds ++ gs)).results = [.lit (.bool true)]) (h2 : (s.fn H (ds ++ gs)).args = ds) (h3 : (s.fn H (ds ++ gs)).vars = []) :
    s.post enc P f false fresh handsOn false W args (.bool true) W' := by
  have hr : ∀ t ∈ f.params.toList, P.readableRec t = true ∧ t < P.types.size := fun t ht => by simpa using List.all_eq_true.1 hr0 t ht
  have hlt := hW.lt
  obtain ⟨p, q, hA, hV, hps, hz, hn⟩ := id hW
  rw [hv] at hV
  obtain ⟨rfl, rfl⟩ := trodVars_none hV
  refine ⟨ds, [], before, [], p, [], hW, ?_, ?_, ?_, below_kept hb _, fun h => by cases h⟩
  · rw [hres, h1]
    exact trodAll_mk1 (shut_bool htb _)
  · rw [h2]
    exact trods_below hl hb _ hr hA (fun x hx => hlt x (by rw [hps]; exact List.mem_append_left _ hx))
  · rw [h3, hv]; rfl

inductive RelL (S : Ctx) : List V → List Value → Prop
  | nil : RelL S [] []
  | cons {v : V} {u : Value} {vs : List V} {us : List Value} : Rel S v u → RelL S vs us → RelL S (v :: vs) (u :: us)
theorem RelL.get {S : Ctx} {vs : List V} {us : List Value} (h : RelL S vs us) : us.length = vs.length ∧ ∀ (j : Nat) (x : V) (u : Value), vs[j]? = some x → us[j]? = some u → Rel S x u := by
  induction h with
  | nil => exact ⟨rfl, fun j x u h => by simp at h⟩
  | cons h0 _ ih =>
    refine ⟨by simp [ih.1], fun j x u h1 h2 => ?_⟩
    cases j with
    | zero => simp at h1 h2; subst h1; subst h2; exact h0
    | succ j => exact ih.2 j x u (by simpa using h1) (by simpa using h2)
theorem RelL.arr {S : Ctx} {vs : List V} {us : List Value} (h : RelL S vs us) : RelA S vs us.toArray := ⟨by simp [h.get.1], fun j x u h1 h2 => h.get.2 j x u h1 (by simpa using h2)⟩
/-! What an argument is. -/
theorem rel_ints {H : Type} {enc : TypeId × Value → H} {P : Program} {W : World} {r : Reach} {b0 : Nat} {t e : TypeId} {k : IntKind} {v : Value} {d : DataW H} {ps : List MemPlace} (ht : P.underlying t = some (.slice e)) (he : P.underlying e = some (.int k)) (hc : P.cellsOf e = 1)
    (hval : Value.okWide P W r b0 t v) (h : DataW.Trod enc P W 0 (fun _ => true) true t v d ps) (hlt : ∀ x ∈ ps, x.block < W.heap.size) : ∃ zs : List Int, Rel (start W) (.vs (zs.map (V.int k))) v ∧ (∀ n ∈ zs, (Lit.int k n).wf = true) ∧ zs.length ≤ maxLen := by
  obtain ⟨fuel, hf⟩ := h
  have hvc : ∀ x, v.cells.toList = [x] → v = x := by
    intro x hx
    obtain ⟨a, len, cap, rfl⟩ := okWide_slice ht hval
    simpa [Value.cells] using hx
  rcases open_ints ht he hc hf with ⟨hcs, hx⟩ | ⟨a, len, cap, zs, hcs, _, hl, hm, hz, hx, hcell, hwz⟩
  · refine ⟨[], ?_, by simp, by simp⟩
    rw [hvc _ hcs]
    exact .vs [] none 0 0 0 0 0 (fun _ => .nilFunc) rfl (Nat.le_refl _) rfl (fun h => absurd rfl h) (by simp) (by simp) (by simp)
  · simp only [if_true] at hz
    have hspot : 0 < len → a.spot = none := by
      intro h0
      have := hcell 0 (by omega)
      unfold World.cell? at this
      simp only [Addr.add, if_true] at this
      cases hs : a.spot with
      | none => rfl
      | some _ => rw [hs] at this; split at this <;> simp at this
    refine ⟨zs.take len, ?_, fun n hn => hwz n (List.mem_of_mem_take hn), by simp; omega⟩
    rw [hvc _ hcs]
    have hlen : (zs.take len).length = len := by simp; omega
    have hget : ∀ (i : Nat) (x : V), ((zs.take len).map (V.int k))[i]? = some x → i < len ∧ x = .int k (zs.getD i 0) := by
      intro i x hi
      rw [List.getElem?_map] at hi
      cases hq : (zs.take len)[i]? with
      | none => rw [hq] at hi; cases hi
      | some n =>
        rw [hq] at hi
        have hil := (List.getElem?_eq_some_iff.1 hq).1
        rw [hlen] at hil
        rw [List.getElem?_take, if_pos hil] at hq
        refine ⟨hil, ?_⟩
        simp only [Option.map_some, Option.some.injEq] at hi
        rw [← hi, List.getD_eq_getElem?_getD, hq]; rfl
    refine .vs _ (some a) len cap a.block a.off 1 (fun i => .int k (zs.getD i 0)) (by simp; omega) hl ?_ ?_ ?_ ?_ ?_
    · generalize zs.take len = l
      induction l with
      | nil => rfl
      | cons n l ih => exact ih
    · intro hne
      have h0 : 0 < len := by
        rcases Nat.eq_zero_or_pos len with h0 | h0
        · subst h0; simp at hne
        · exact h0
      refine ⟨?_, start_free W _, ?_⟩
      · have := hspot h0
        cases a; simp only at this; subst this; rfl
      · have hm := hcell 0 (by omega)
        unfold World.cell? at hm
        simp only [Addr.add, if_true] at hm
        split at hm
        · rename_i heq
          exact (Array.getElem?_eq_some_iff.1 heq).1
        · cases hm
    · intro i x hi
      rw [(hget i x hi).2]; rfl
    · intro i x j y hi hj
      obtain ⟨hil, rfl⟩ := hget i x hi
      have hj0 : j = 0 ∧ y = .int k (zs.getD i 0) := by
        cases j with
        | zero => simpa [V.cells, eq_comm] using hj
        | succ j => simp [V.cells] at hj
      obtain ⟨rfl, rfl⟩ := hj0
      have := hcell i (by omega)
      have hs := hspot (by omega)
      have e : a.add i = ⟨a.block, a.off + (i * 1 + 0), none⟩ := by
        unfold Addr.add
        split
        · rename_i h0; subst h0
          cases a; simp only at hs; subst hs; simp
        · simp
      rw [← e]
      simpa [start] using this
    · intro i x j y hi hj
      obtain ⟨hil, rfl⟩ := hget i x hi
      cases j with
      | zero =>
        have hy : y = .int k (zs.getD i 0) := by simpa [V.cells, eq_comm] using hj
        subst hy
        simp only [Nat.mul_one, Nat.add_zero]
        exact .int _ _
      | succ j => simp [V.cells] at hj
end Go.Ev
end

section
/- Functions that are taken by what they do, and call others. -/
namespace Go.Ev
set_option linter.unusedVariables false

def orcAt : List (Nat × (CallO → List V → Heap → Option (Out × Heap))) → Nat → Option (CallO → List V → Heap → Option (Out × Heap))
  | [], _ => none
  | (i, g) :: r, f => match Nat.beq i f with
    | true => some g
    | false => orcAt r f
def FineG (g : CallO → List V → Heap → Option (Out × Heap)) : Prop := ∀ args H call, Fine (fun c => g c args H) call
theorem orc_of : ∀ (l : List (Nat × (CallO → List V → Heap → Option (Out × Heap)))) (f : Nat) (g : CallO → List V → Heap → Option (Out × Heap)), orcAt l f = some g → (f, g) ∈ l
  | [], f, g, h => by cases h
  | (i, g') :: r, f, g, h => by
    unfold orcAt at h
    split at h
    · rename_i he
      injection h with h
      subst h
      have := Nat.eq_of_beq_eq_true he
      subst this
      exact List.mem_cons_self
    · exact List.mem_cons_of_mem _ (orc_of r f g h)
theorem orc_fine {l : List (Nat × (CallO → List V → Heap → Option (Out × Heap)))} (h : ∀ p ∈ l, FineG p.2) : ∀ f g, orcAt l f = some g → ∀ args H call, Fine (fun c => g c args H) call :=
  fun f g hg => h _ (orc_of l f g hg)
theorem orcs_nil : ∀ p ∈ ([] : List (Nat × (CallO → List V → Heap → Option (Out × Heap)))), FineG p.2 := fun p hp => by simp at hp
theorem orcs_cons {i : Nat} {g : CallO → List V → Heap → Option (Out × Heap)} {l : List (Nat × (CallO → List V → Heap → Option (Out × Heap)))} (h : FineG g) (k : ∀ p ∈ l, FineG p.2) : ∀ p ∈ (i, g) :: l, FineG p.2 := fun p hp => by
  rcases List.mem_cons.1 hp with rfl | hp
  · exact h
  · exact k p hp

/-- What a call hands back that needs no memory, and leaves none. -/
noncomputable def sameH (H : Heap) (r : Out × Heap) : Option V := match r with
  | (.ret v, []) => some v
  | _ => none
theorem sameH_ret (H : Heap) (v : V) : sameH H (.ret v, []) = some v := rfl
theorem sameH_some {H : Heap} {r : Out × Heap} {v : V} (h : sameH H r = some v) : r = (.ret v, []) := by
  unfold sameH at h
  split at h
  · injection h with h; subst h; rfl
  · cases h

/-- The teller: fN, fR, fT: is it a name, is it right, its text. -/
noncomputable def oTellL (call : CallO) (fN fR fT : FuncId) (H : Heap) : List V → List UInt8 → Option (Out × Heap)
  | [], acc => some (.ret (.tup [.str acc, .int .i64 0]), H)
  | x :: xs, acc => match x with
    | .agg [.str nm, .bool more, .int .i64 e0, .str e1, .vs e2, .int .i64 e3, .int .i64 e4, .vs e5] => (call fN [.str nm] []).bind fun r => (sameH H r).bind fun v => match v with
      | .bool false => some (.ret (.tup [.str [], .int .i64 1]), H)
      | .bool true => (call fR [.agg [.int .i64 e0, .str e1, .vs e2, .int .i64 e3, .int .i64 e4, .vs e5]] []).bind fun r => (sameH H r).bind fun v => match v with
        | .bool false => some (.ret (.tup [.str [], .int .i64 1]), H)
        | .bool true => (call fT [.agg [.int .i64 e0, .str e1, .vs e2, .int .i64 e3, .int .i64 e4, .vs e5]] []).bind fun r => (sameH H r).bind fun v => match v with
          | .str t => if acc.length + (nm.length + 4 + t.length + 1) ≤ 100000000000000 then oTellL call fN fR fT H xs (acc ++ (nm ++ (if more then [32, 61, 47, 32] else [32, 61, 32]) ++ t ++ [10])) else none
          | _ => none
        | _ => none
      | _ => none
    | _ => none
noncomputable def oTell (fN fR fT : FuncId) (call : CallO) (args : List V) (H : Heap) : Option (Out × Heap) :=
  match args with
  | [.vs xs] => if xs.length ≤ 4611686018427387904 then oTellL call fN fR fT H xs [] else none
  | _ => none
theorem oTellL_fine {fN fR fT : FuncId} {H : Heap} {call : CallO} : ∀ (xs : List V) (acc : List UInt8), Fine (fun c => oTellL c fN fR fT H xs acc) call
  | [], acc => Fine.const _
  | x :: xs, acc => by
    simp only [oTellL]
    split
    · refine Fine.bind (Fine.one _ _ _) fun r => Fine.bind (Fine.const _) fun v => ?_
      split
      · exact Fine.const _
      · refine Fine.bind (Fine.one _ _ _) fun r => Fine.bind (Fine.const _) fun v => ?_
        split
        · exact Fine.const _
        · refine Fine.bind (Fine.one _ _ _) fun r => Fine.bind (Fine.const _) fun v => ?_
          split
          · split
            · exact oTellL_fine xs _
            · exact Fine.const _
          · exact Fine.const _
        · exact Fine.const _
      · exact Fine.const _
    · exact Fine.const _
theorem oTell_fine (fN fR fT : FuncId) : FineG (oTell fN fR fT) := by
  intro args H call
  unfold oTell
  split
  · split
    · exact oTellL_fine _ _
    · exact Fine.const _
  · exact Fine.const _
end Go.Ev
end

section
/- Calls that own nothing: they change no block that there was. -/
namespace Go.Ev
set_option linter.unusedVariables false
variable {T : Tabs}

theorem cleanL_get : ∀ {cs : List V} {j : Nat} {x : V}, cleanL cs = true → cs[j]? = some x → x.clean = true
  | [], j, x, _, h => by simp at h
  | c :: cs, 0, x, hc, h => by
    simp only [cleanL, Bool.and_eq_true] at hc
    simp at h; subst h; exact hc.1
  | c :: cs, j + 1, x, hc, h => by
    simp only [cleanL, Bool.and_eq_true] at hc
    exact cleanL_get hc.2 (by simpa using h)
/-- What refers to no memory that is owned is related wherever the blocks that nobody owns are as they were. -/
theorem Rel.alone {S S' : Ctx} (hx : ∀ c, S.free c → c < S.w.heap.size → S'.free c ∧ c < S'.w.heap.size ∧ S'.w.heap[c]? = S.w.heap[c]?) {v : V} {u : Value} (h : Rel S v u) : v.clean = true → Rel S' v u := by
  induction h with
  | junk u => intro hc; simp [V.clean] at hc
  | bool b => intro _; exact .bool b
  | int k n => intro _; exact .int k n
  | str bs => intro _; exact .str bs
  | nilptr => intro _; exact .nilptr
  | ptr i ver off a hi h => intro hc; simp [V.clean] at hc
  | fptr cs c off us hf hlt hcl h1 h2 ih =>
    intro _
    obtain ⟨k1, k2, k3⟩ := hx c hf hlt
    exact .fptr cs c off us k1 k2 hcl (fun j x hj => by rw [cell?_congr k3]; exact h1 j x hj) fun j x hj => ih j x hj (cleanL_get hcl hj)
  | nils => intro _; exact .nils
  | vs xs a n cap c off sz us hn hcap hcl ha hsz h1 h2 ih =>
    intro _
    refine .vs xs a n cap c off sz us hn hcap hcl (fun hne => ?_) hsz (fun i x j y hi hj => ?_) fun i x j y hi hj => ih i x j y hi hj (cleanL_get (clean_cells (cleanL_get hcl hi)) hj)
    · obtain ⟨a1, a2, a3⟩ := ha hne
      obtain ⟨k1, k2, k3⟩ := hx c a2 a3
      exact ⟨a1, k1, k2⟩
    · have hne : xs ≠ [] := by rintro rfl; simp at hi
      obtain ⟨a1, a2, a3⟩ := ha hne
      rw [cell?_congr (hx c a2 a3).2.2]; exact h1 i x j y hi hj
  | rs i ver sz off n a cap hi hcap h => intro hc; simp [V.clean] at hc
  | fn f cap us hl h2 ih => intro hc; exact .fn f cap us hl fun j x u hj hu => ih j x u hj hu (cleanL_get (by simpa [V.clean] using hc) hj)
  | nilfn => intro _; exact .nilfn
  | niface => intro _; exact .niface
  | iface t v u h ih => intro hc; exact .iface t v u (ih (by simpa [V.clean] using hc))
  | agg cs us hl h2 ih => intro hc; exact .agg cs us hl fun j x u hj hu => ih j x u hj hu (cleanL_get (by simpa [V.clean] using hc) hj)
  | tup cs us hl h2 ih => intro hc; exact .tup cs us hl fun j x u hj hu => ih j x u hj hu (cleanL_get (by simpa [V.clean] using hc) hj)
  | nilmap => intro _; exact .nilmap
  | mapr i c hi h => intro hc; simp [V.clean] at hc

/-- A context without memory of its own: of S's, just what nobody owns is free. -/
def Ctx.only (S : Ctx) (w : World) : Ctx := ⟨[], fun _ => 0, fun c => c < w.heap.size ∧ ¬ (S.free c ∧ c < S.w.heap.size), w⟩
theorem only_live (S : Ctx) (w : World) (i : Nat) : ¬ (S.only w).live i := by simp [Ctx.only, Ctx.live, curVer, hget]
theorem only_free (S : Ctx) (w : World) {c : Nat} (h : S.free c) (hc : c < S.w.heap.size) : (S.only w).free c :=
  ⟨fun ⟨i, hi, _⟩ => only_live S w i hi, fun hz => hz.2 ⟨h, hc⟩⟩
theorem only_sim {S : Ctx} (hS : Sim T S) {w : World} (hg : Grew S.w w) : Sim T (S.only w) where
  blk := fun i b h => by simp [Ctx.only, hget] at h
  inj := fun i j h => (only_live S w i h).elim
  zfree := fun i h => (only_live S w i h).elim
  zlt := fun c h => h.1
  tab := fun c us hc => by
    obtain ⟨h1, h2, e, fr, h3⟩ := hS.tab c us hc
    exact ⟨only_free S w h1 h2, Nat.lt_of_lt_of_le h2 hg.size, e, fr, (hg.old c h2).trans h3⟩
theorem only_rel {S : Ctx} {w : World} (hg : Grew S.w w) {v : V} {u : Value} (h : Rel S v u) (hc : v.clean = true) : Rel (S.only w) v u :=
  h.alone (fun c hf hlt => ⟨only_free S w hf hlt, Nat.lt_of_lt_of_le hlt hg.size, hg.old c hlt⟩) hc
/-- A call that owns nothing leaves all blocks as they are. -/
theorem call_only {P : Program} {call : CallO} (hcall : CallOK T P call) {f : FuncId} {args : List V} {v : V} (hm : call f args [] = some (.ret v, [])) {S : Ctx} (hS : Sim T S) {w : World} (hg : Grew S.w w) {us : Array Value} (hA : RelA (S.only w) args us) :
    (callFunc f us).run P w = .ok (.enter f us) w ∧ Calls P f us w fun e w' => ∃ u, e = .returned u ∧ Grew w w' ∧ ∃ S', Rel S' v u := by
  obtain ⟨h1, h2⟩ := hcall f args [] _ _ hm (S.only w) us rfl (only_sim hS hg) hA
  refine ⟨h1, h2.mono fun e w' he => ?_⟩
  obtain ⟨S', hto, hr⟩ := he
  have hw := hto.w
  subst hw
  match e, hr with
  | .returned u, hr =>
    refine ⟨u, rfl, ⟨hto.ext.size, fun c hc => ?_, hto.ext.os, hto.ext.tape, hto.ext.output⟩, S', hr⟩
    by_cases hz : (S.only w).Z c
    · exact (hto.ext.zed c hz).2
    · exact (hto.ext.keep c hc ⟨fun ⟨i, hi, _⟩ => only_live S w i hi, hz⟩).1
end Go.Ev
namespace Go.Ev
theorem oTellL_cons {call : CallO} {fN fR fT : FuncId} {H H' : Heap} {x v : V} {xs : List V} {acc : List UInt8} (h : oTellL call fN fR fT H (x :: xs) acc = some (.ret v, H')) :
    ∃ nm more e0 e1 e2 e3 e4 e5, x = .agg [.str nm, .bool more, .int .i64 e0, .str e1, .vs e2, .int .i64 e3, .int .i64 e4, .vs e5] ∧
      ((call fN [.str nm] [] = some (.ret (.bool false), []) ∧ v = .tup [.str [], .int .i64 1] ∧ H' = H) ∨
       (call fN [.str nm] [] = some (.ret (.bool true), []) ∧ call fR [.agg [.int .i64 e0, .str e1, .vs e2, .int .i64 e3, .int .i64 e4, .vs e5]] [] = some (.ret (.bool false), []) ∧ v = .tup [.str [], .int .i64 1] ∧ H' = H) ∨
       (call fN [.str nm] [] = some (.ret (.bool true), []) ∧ call fR [.agg [.int .i64 e0, .str e1, .vs e2, .int .i64 e3, .int .i64 e4, .vs e5]] [] = some (.ret (.bool true), []) ∧
         ∃ t, call fT [.agg [.int .i64 e0, .str e1, .vs e2, .int .i64 e3, .int .i64 e4, .vs e5]] [] = some (.ret (.str t), []) ∧ acc.length + (nm.length + 4 + t.length + 1) ≤ 100000000000000 ∧
           oTellL call fN fR fT H xs (acc ++ (nm ++ (if more then [32, 61, 47, 32] else [32, 61, 32]) ++ t ++ [10])) = some (.ret v, H'))) := by
  unfold oTellL at h
  split at h
  · rename_i nm more e0 e1 e2 e3 e4 e5
    refine ⟨nm, more, e0, e1, e2, e3, e4, e5, rfl, ?_⟩
    obtain ⟨q1, hq1, h1⟩ := Option.bind_eq_some_iff.1 h
    obtain ⟨v1, hv1, h2⟩ := Option.bind_eq_some_iff.1 h1
    obtain rfl := sameH_some hv1
    clear h h1 hv1
    match v1, h2 with
    | .bool false, h2 =>
      simp only [Option.some.injEq, Prod.mk.injEq, Out.ret.injEq] at h2
      exact .inl ⟨hq1, h2.1.symm, h2.2.symm⟩
    | .bool true, h2 =>
      obtain ⟨q2, hq2, h3⟩ := Option.bind_eq_some_iff.1 h2
      obtain ⟨v2, hv2, h4⟩ := Option.bind_eq_some_iff.1 h3
      obtain rfl := sameH_some hv2
      clear h2 h3 hv2
      match v2, h4 with
      | .bool false, h4 =>
        simp only [Option.some.injEq, Prod.mk.injEq, Out.ret.injEq] at h4
        exact .inr (.inl ⟨hq1, hq2, h4.1.symm, h4.2.symm⟩)
      | .bool true, h4 =>
        obtain ⟨q3, hq3, h5⟩ := Option.bind_eq_some_iff.1 h4
        obtain ⟨v3, hv3, h6⟩ := Option.bind_eq_some_iff.1 h5
        obtain rfl := sameH_some hv3
        clear h4 h5 hv3
        match v3, h6 with
        | .str t, h6 =>
          simp only at h6
          split at h6
          · rename_i hle
            exact .inr (.inr ⟨hq1, hq2, _, hq3, hle, h6⟩)
          · cases h6
  · cases h
theorem oTellL_ret {call : CallO} {fN fR fT : FuncId} {H H' : Heap} {r : Out} : ∀ {xs : List V} {acc : List UInt8}, oTellL call fN fR fT H xs acc = some (r, H') → ∃ v, r = .ret v
  | [], acc, h => by
    simp only [oTellL, Option.some.injEq, Prod.mk.injEq] at h
    exact ⟨_, h.1.symm⟩
  | x :: xs, acc, h => by
    unfold oTellL at h
    split at h
    · rename_i nm more e0 e1 e2 e3 e4 e5
      obtain ⟨q1, hq1, h1⟩ := Option.bind_eq_some_iff.1 h
      obtain ⟨v1, hv1, h2⟩ := Option.bind_eq_some_iff.1 h1
      clear h h1
      match v1, h2 with
      | .bool false, h2 =>
        simp only [Option.some.injEq, Prod.mk.injEq] at h2
        exact ⟨_, h2.1.symm⟩
      | .bool true, h2 =>
        obtain ⟨q2, hq2, h3⟩ := Option.bind_eq_some_iff.1 h2
        obtain ⟨v2, hv2, h4⟩ := Option.bind_eq_some_iff.1 h3
        clear h2 h3
        match v2, h4 with
        | .bool false, h4 =>
          simp only [Option.some.injEq, Prod.mk.injEq] at h4
          exact ⟨_, h4.1.symm⟩
        | .bool true, h4 =>
          obtain ⟨q3, hq3, h5⟩ := Option.bind_eq_some_iff.1 h4
          obtain ⟨v3, hv3, h6⟩ := Option.bind_eq_some_iff.1 h5
          clear h4 h5
          match v3, h6 with
          | .str t, h6 =>
            simp only at h6
            split at h6
            · exact oTellL_ret h6
            · cases h6
    · cases h
end Go.Ev
end

section
/- Tables that a row lists: in whatever order. -/
namespace Go.Ev
open Go.Lib
set_option linter.unusedVariables false
variable {P : Program} {w : World}

theorem laid_mem : ∀ {l : List (String × DataW Unit)} {ps : List MemPlace} {n : String} {d : DataW Unit}, DataW.LaidVars P w l ps → (n, d) ∈ l →
    ∃ g t cs fuel p, P.globalNamed n = some g ∧ (P.globals[g]?).map (·.type) = some t ∧ w.var? P n = some cs ∧ DataW.trod (fun _ => ()) P w 0 (fun _ => true) false fuel t cs.toList = some (d, p)
  | [], ps, n, d, h, hm => by simp at hm
  | (n', d') :: r, ps, n, d, h, hm => by
    obtain ⟨g, t, cs, fuel, p, q, h1, h2, h3, h4, h5, rfl⟩ := h
    rcases List.mem_cons.1 hm with e | hm
    · injection e with e1 e2
      subst e1; subst e2
      exact ⟨g, t, cs, fuel, p, h1, h2, h3, h4⟩
    · exact laid_mem h5 hm
/-- Where a table stands on the list makes no difference. -/
theorem tabIs_mem {name : String} {k : IntKind} {zs : List Int} {l : List (String × DataW Unit)} {g : Nat} {t e : TypeId} {n : Nat}
    (hg : P.globalNamed name = some g) (hty : (P.globals[g]?).map (·.type) = some t) (ht : P.underlying t = some (.array n e)) (he : P.underlying e = some (.int k)) (hce : P.cellsOf e = 1) (hct : P.cellsOf t = n)
    (h : laidMet P l w) (hm : (name, tabData k zs) ∈ l) : TabIs P w name k zs := by
  obtain ⟨ps, hv, _⟩ := h
  obtain ⟨g', t', cs, fuel, p, hg', ht', hvar, hd⟩ := laid_mem hv hm
  obtain rfl := Option.some.inj (hg.symm.trans hg')
  obtain rfl := Option.some.inj (hty.symm.trans ht')
  unfold TabIs
  rw [hvar, ← cells_of_tab ht he hce hct hd]
theorem tabIs_block {name : String} {k : IntKind} {zs : List Int} {g : Nat} (hg : P.globalNamed name = some g) (h : TabIs P w name k zs) : ∃ e fr, w.heap[g]? = some (.cells (zs.map fun z => Value.int k z).toArray e fr) := by
  unfold TabIs World.var? at h
  rw [hg] at h
  simp only [Option.bind_some] at h
  split at h
  · rename_i cs e fr hh
    injection h with h
    subst h
    exact ⟨e, fr, hh⟩
  · cases h
theorem LaidVars_split : ∀ {l l' : List (String × DataW Unit)} {ps : List MemPlace}, DataW.LaidVars P w (l ++ l') ps → ∃ p q, DataW.LaidVars P w l p ∧ DataW.LaidVars P w l' q ∧ ps = p ++ q
  | [], l', ps, h => ⟨[], ps, rfl, h, rfl⟩
  | (n, d) :: r, l', ps, h => by
    obtain ⟨g, t, cs, fuel, p, q, h1, h2, h3, h4, h5, rfl⟩ := h
    obtain ⟨p', q', k1, k2, rfl⟩ := LaidVars_split h5
    exact ⟨_, q', ⟨g, t, cs, fuel, p, p', h1, h2, h3, h4, k1, rfl⟩, k2, by simp [List.append_assoc]⟩
theorem laidMet_swap {l : List (String × DataW Unit)} {x y : String × DataW Unit} (h : laidMet P (l ++ [x] ++ [y]) w) : laidMet P (l ++ [y] ++ [x]) w := by
  obtain ⟨ps, hv, hn, hc⟩ := h
  obtain ⟨p, q, h1, h2, rfl⟩ := LaidVars_split hv
  obtain ⟨p1, p2, h3, h4, rfl⟩ := LaidVars_split h1
  have hp : (p1 ++ q ++ p2).Perm (p1 ++ p2 ++ q) := by
    rw [List.append_assoc, List.append_assoc]
    exact List.Perm.append_left _ List.perm_append_comm
  exact ⟨p1 ++ q ++ p2, Go.Proofs.LaidVars_append (Go.Proofs.LaidVars_append h3 h2) h4, hp.nodup_iff.2 hn, fun b off hb => hc b off (hp.mem_iff.1 hb)⟩
end Go.Ev
end

