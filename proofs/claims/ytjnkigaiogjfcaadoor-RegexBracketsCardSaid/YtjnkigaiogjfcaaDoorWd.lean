/- Wd: a part of the proof that each law of this seat answers true at every input. No condition. -/
import Derived.Test.YtjnkigaiogjfcaaDoorWb
import Derived.Test.YtjnkigaiogjfcaaDoorWc
import Derived.Test.YtjnkigaiogjfcaaDoorXa
import Derived.Test.YtjnkigaiogjfcaaDoorEvGb
import Derived.BigCall
import Derived.Test.YtjnkigaiogjfcaaDoorRows
import Derived.Lib.TrailingZeros
set_option linter.unusedVariables false
set_option linter.unusedSimpArgs false
set_option maxRecDepth 2000
section
/- Functions of the library and of the program that are taken by what they do; what the evaluator says of the program is so. -/
namespace Go.Proofs.YtjnkigaiogjfcaaDoor
open Go Go.Ev Go.RowKit
set_option linter.unusedVariables false

theorem tab_pow {S : Ctx} (h : Sim tabs S) : Lib.TabIs Tryd.prog S.w "internal/strconv.uint64pow10" .u64 Lib.pow10Tab := tab_of h (show Tryd.prog.globalNamed "internal/strconv.uint64pow10" = some 2 by kernel_rfl) (.inl ⟨rfl, rfl⟩)
theorem tab_tz {S : Ctx} (h : Sim tabs S) : Lib.TabIs Tryd.prog S.w "math/bits.deBruijn64tab" .u8 tzTab := tab_of h (show Tryd.prog.globalNamed "math/bits.deBruijn64tab" = some 1 by kernel_rfl) (.inr ⟨rfl, rfl⟩)
theorem tzAt_of {W : World} (h : Lib.TabIs Tryd.prog W "math/bits.deBruijn64tab" .u8 tzTab) : TzAt W := fun i hi =>
  h.cell (show Tryd.prog.globalNamed "math/bits.deBruijn64tab" = some 1 by kernel_rfl) i (by simpa [tzTab] using hi)

theorem mixed : Tryd.prog.follows .mixedOrders = true := by kernel_rfl
theorem namesB : (Tryd.prog.funcs.all fun fn => !fn.body.isSome || !(fn.name == "runtime.NumGoroutine")) = true := by kernel_rfl
theorem namesOK : NameOK Tryd.prog := by
  intro f fn hf hb
  have h := namesB
  rw [Array.all_eq_true_iff_forall_mem] at h
  have := h fn (Array.mem_of_getElem? hf)
  simpa [hb] using this
theorem intr_of : ∀ (l : List (Nat × (List V → Heap → Option (Out × Heap)))) (f : Nat) (g : List V → Heap → Option (Out × Heap)), intrAt l f = some g → (f, g) ∈ l
  | [], f, g, h => by cases h
  | (i, g') :: r, f, g, h => by
    unfold intrAt at h
    split at h
    · rename_i he
      injection h with h
      subst h
      have := Nat.eq_of_beq_eq_true he
      subst this
      exact List.mem_cons_self
    · exact List.mem_cons_of_mem _ (intr_of r f g h)

set_option maxHeartbeats 1000000 in
theorem tz_zero (w : World) : Calls Tryd.prog 83 #[.int .u64 0] w fun e w' => e = .returned (.int .i64 64) ∧ w' = w := by
  go_enter Tryd.func83, Tryd.ntmps83
  go_wp2
  go_ret
  exact ⟨rfl, rfl⟩
set_option maxHeartbeats 1000000 in
theorem tz_core (x : Int) (k idx : Nat) (w : World) (hx0 : (x == 0) = false)
    (key : IntKind.u64.wrap (bits BinOp.and IntKind.u64 x (IntKind.u64.wrap (-x)) * 285870213051353865) / 288230376151711744 = (idx : Int))
    (hi : idx < 64) (hk : k < 64) (hcell : w.cell? ⟨1, idx, none⟩ = some (.int .u8 k)) :
    Calls Tryd.prog 83 #[.int .u64 x] w fun e w' => e = .returned (.int .i64 k) ∧ w' = w := by
  go_enter Tryd.func83, Tryd.ntmps83
  go_wp2_with (simp only [key])
  go_ret
  exact ⟨rfl, rfl⟩
theorem tz_walk (x : Int) (w : World) (h0 : 0 ≤ x) (h1 : x ≤ 18446744073709551615) (hT : Lib.TabIs Tryd.prog w "math/bits.deBruijn64tab" .u8 tzTab) :
    Calls Tryd.prog 83 #[.int .u64 x] w fun e w' => e = .returned (.int .i64 (if x = 0 then 64 else tzTab.getD (tzIdx x).toNat 0)) ∧ Below w.heap.size w w' := by
  by_cases hx : x = 0
  · subst hx
    refine (tz_zero w).mono fun e w' he => ?_
    obtain ⟨rfl, rfl⟩ := he
    exact ⟨rfl, Below.refl _ _⟩
  · have hlo : 0 ≤ tzIdx x ∧ tzIdx x < 64 := by
      unfold tzIdx
      rw [Int.fdiv_eq_ediv_of_nonneg _ (by omega), IntKind.wrap_u64]
      omega
    have hi : (tzIdx x).toNat < 64 := by omega
    have ht : ∀ i, i < 64 → ∃ k : Nat, k < 64 ∧ tzTab.getD i 0 = k := by decide
    obtain ⟨k, hk, hv⟩ := ht _ hi
    have hc := hT.cell (show Tryd.prog.globalNamed "math/bits.deBruijn64tab" = some 1 by kernel_rfl) (tzIdx x).toNat (by simpa [tzTab] using hi)
    rw [hv] at hc
    rw [if_neg hx, hv]
    refine (tz_core x k (tzIdx x).toNat w (by simpa using hx) ?_ hi hk hc).mono fun e w' he => ?_
    · rw [show ((tzIdx x).toNat : Int) = tzIdx x by omega]
      unfold tzIdx
      rw [Int.fdiv_eq_ediv_of_nonneg _ (by omega), Int.zero_sub]
      rfl
    · obtain ⟨rfl, rfl⟩ := he
      exact ⟨rfl, Below.refl _ _⟩

/-! Words, compared. -/
theorem cmp_mod : Mod tabs Tryd.prog 43 (iRd gCmp) := by
  refine rd_mod (fun args H v hv S uargs hH hS hA => ?_) (enters Tryd.func43 (by kernel_rfl) (by kernel_rfl))
  unfold gCmp at hv
  split at hv
  · injection hv with hv
    subst hv
    obtain ⟨u, u', rfl, hu, hu'⟩ := hA.two
    obtain ⟨b1, rfl, rfl⟩ := rel_str_inv hu
    obtain ⟨b2, rfl, rfl⟩ := rel_str_inv hu'
    refine (Tryd.strings_Compare b1 b2 S.w).mono fun e w' he => ?_
    obtain ⟨rfl, rfl⟩ := he
    exact ⟨_, rfl, Below.refl _ _, fun S' _ => .int _ _⟩
  · cases hv

/-! Ranges. -/
theorem rel_set {S : Ctx} {a b c d : Int} {u : Value} (h : Rel S (.agg [.int .u64 a, .int .u64 b, .int .u64 c, .int .u64 d]) u) : u = .agg #[.int .u64 a, .int .u64 b, .int .u64 c, .int .u64 d] := by
  cases h with
  | agg _ us hl h2 =>
    have g : ∀ j (hj : j < 4), ∃ u, us[j]? = some u := fun j hj => ⟨us[j]'(by rw [hl]; exact hj), Array.getElem?_eq_getElem _⟩
    obtain ⟨u0, e0⟩ := g 0 (by omega)
    obtain ⟨u1, e1⟩ := g 1 (by omega)
    obtain ⟨u2, e2⟩ := g 2 (by omega)
    obtain ⟨u3, e3⟩ := g 3 (by omega)
    have r0 := rel_int_inv (h2 0 _ _ rfl e0)
    have r1 := rel_int_inv (h2 1 _ _ rfl e1)
    have r2 := rel_int_inv (h2 2 _ _ rfl e2)
    have r3 := rel_int_inv (h2 3 _ _ rfl e3)
    subst r0; subst r1; subst r2; subst r3
    congr 1
    apply Array.ext_getElem?
    intro j
    match j with
    | 0 => simpa using e0
    | 1 => simpa using e1
    | 2 => simpa using e2
    | 3 => simpa using e3
    | j + 4 => rw [Array.getElem?_eq_none (by rw [hl]; simp)]; simp
theorem flatR_get : ∀ {L : List (Int × Int)} {i : Nat} {x : Int × Int}, L[i]? = some x → (flatR L)[i * 2 + 0]? = some (.int .i64 x.1) ∧ (flatR L)[i * 2 + 1]? = some (.int .i64 x.2)
  | [], i, x, h => by simp at h
  | y :: L, 0, x, h => by
    simp at h
    subst h
    exact ⟨rfl, rfl⟩
  | y :: L, i + 1, x, h => by
    obtain ⟨h1, h2⟩ := flatR_get (L := L) (i := i) (by simpa using h)
    have e : flatR (y :: L) = [.int .i64 y.1, .int .i64 y.2] ++ flatR L := rfl
    rw [e, show (i + 1) * 2 + 0 = (i * 2 + 0) + 2 by omega, show (i + 1) * 2 + 1 = (i * 2 + 1) + 2 by omega]
    exact ⟨by simpa using h1, by simpa using h2⟩
theorem cleanR (L : List (Int × Int)) : cleanL (L.map fun x => V.agg [.int .i64 x.1, .int .i64 x.2]) = true := by
  induction L with
  | nil => rfl
  | cons x L ih => simp only [List.map_cons, cleanL, V.clean, ih, Bool.and_self]
theorem rel_ranges {S : Ctx} (hS : Sim tabs S) {W' : World} (hg : Grew S.w W') {v : Value} {L : List (Int × Int)} (h : W'.ownsRow S.w.heap.size 74 2 v L.length (flatR L)) :
    Rel (S.at W') (.vs (L.map fun x => .agg [.int .i64 x.1, .int .i64 x.2])) v := by
  obtain ⟨hlen, h⟩ := h
  rcases h with ⟨rfl, h0⟩ | ⟨g, cap, cur, rfl, hbg, hcell, hcap, _, hsz, hcs⟩
  · have : L = [] := List.eq_nil_of_length_eq_zero h0
    subst this
    exact .vs [] none 0 0 0 0 0 (fun _ => .nilFunc) rfl (Nat.le_refl _) rfl (fun h => absurd rfl h) (by simp) (by simp) (by simp)
  · have hlt : g < W'.heap.size := (Array.getElem?_eq_some_iff.1 hcell).1
    have hget : ∀ k, k < L.length * 2 → W'.cell? ⟨g, 0 + k, none⟩ = (flatR L)[k]? := fun k hk => by
      simp only [World.cell?, hcell, Nat.zero_add]
      rw [← hcs, List.getElem?_take_of_lt hk]
      simp
    have hat : ∀ (i : Nat) (x : V) (j : Nat) (y : V), (L.map fun x => V.agg [.int .i64 x.1, .int .i64 x.2])[i]? = some x → x.cells[j]? = some y → ∃ n, y = .int .i64 n ∧ W'.cell? ⟨g, 0 + (i * 2 + j), none⟩ = some (.int .i64 n) := fun i x j y hi hj => by
      rw [List.getElem?_map] at hi
      obtain ⟨z, hz, rfl⟩ := Option.map_eq_some_iff.1 hi
      have hil := (List.getElem?_eq_some_iff.1 hz).1
      obtain ⟨q1, q2⟩ := flatR_get hz
      match j with
      | 0 => simp [V.cells] at hj; subst hj; exact ⟨_, rfl, by rw [hget _ (by omega)]; exact q1⟩
      | 1 => simp [V.cells] at hj; subst hj; exact ⟨_, rfl, by rw [hget _ (by omega)]; exact q2⟩
      | j + 2 => simp [V.cells] at hj
    refine .vs _ _ _ _ g 0 2 (fun k => (W'.cell? ⟨g, 0 + k, none⟩).getD .nilFunc) (by simp) hcap (cleanR L) (fun _ => ⟨rfl, ⟨?_, ?_⟩, hlt⟩) (fun i x hi => ?_) (fun i x j y hi hj => ?_) fun i x j y hi hj => ?_
    · rintro ⟨i, hi, e⟩
      have := hS.lt (show S.live i from hi)
      have e : S.ρ i = g := e
      omega
    · intro hz
      have := hS.zlt g hz
      omega
    · rw [List.getElem?_map] at hi
      obtain ⟨z, hz, rfl⟩ := Option.map_eq_some_iff.1 hi
      rfl
    · obtain ⟨n, _, e⟩ := hat i x j y hi hj
      show W'.cell? _ = _
      rw [e]; rfl
    · obtain ⟨n, rfl, e⟩ := hat i x j y hi hj
      simp only [e, Option.getD_some]
      exact .int _ _
theorem ranges_mod : Mod tabs Tryd.prog 72 (iRd gRanges) := by
  intro args H r H' hm S uargs hH hS hA
  refine ⟨enters Tryd.func72 (by kernel_rfl) (by kernel_rfl) _ _, ?_⟩
  unfold iRd at hm
  obtain ⟨v, h1, h2⟩ := Option.map_eq_some_iff.1 hm
  injection h2 with h2 h3
  subst h2; subst h3; subst hH
  unfold gRanges at h1
  split at h1
  · rename_i a b c d
    split at h1
    · rename_i hw
      injection h1 with h1
      subst h1
      obtain ⟨u, rfl, hu⟩ := hA.one
      obtain rfl := rel_set hu
      simp only [wordOK, Bool.and_eq_true, decide_eq_true_eq] at hw
      obtain ⟨⟨⟨a1, b1⟩, c1⟩, d1⟩ := hw
      obtain ⟨w0, rfl⟩ : ∃ n : Nat, a = n := ⟨a.toNat, by omega⟩
      obtain ⟨w1, rfl⟩ : ∃ n : Nat, b = n := ⟨b.toNat, by omega⟩
      obtain ⟨w2, rfl⟩ : ∃ n : Nat, c = n := ⟨c.toNat, by omega⟩
      obtain ⟨w3, rfl⟩ : ∃ n : Nat, d = n := ⟨d.toNat, by omega⟩
      simp only [Int.toNat_natCast]
      have hlen : (allB [w0, w1, w2, w3] 4).length ≤ 256 := by
        rw [X7.S4.allB_eq (s := ⟨w0, w1, w2, w3⟩)]
        simpa using X7.S4.bytes_len ⟨w0, w1, w2, w3⟩
      have ht := hS.tab 1 _ (.inr ⟨rfl, rfl⟩)
      refine (callsIn_wide.1 (ranges_in Fence.wide 3 trivial trivial trivial trivial rfl (Nat.le_refl _) w0 w1 w2 w3 (by omega) (by omega) (by omega) (by omega) hlen S.w ht.2.1 (tzAt_of (tab_tz hS)))).mono fun e W' he => ?_
      obtain ⟨v, rfl, how, hb⟩ := he
      have hg := below_grew hb
      exact ⟨S.at W', ⟨rfl, rfl, rfl, at_ext hS hg, at_sim hS hg, Bd.refl _ _⟩, rel_ranges hS hg how⟩
    · cases h1
  · cases h1

/-! A text. -/
set_option maxHeartbeats 1000000 in
theorem txt_mod {call : CallO} (hcall : CallOK tabs Tryd.prog call) : Mod tabs Tryd.prog 20 (oTxt 65 call) := by
  intro args H r H' hm S uargs hH hS hA
  subst hH
  refine ⟨enters Tryd.func20 (by kernel_rfl) (by kernel_rfl) _ _, ?_⟩
  unfold oTxt at hm
  split at hm
  · rename_i x
    obtain ⟨t, ht, h2⟩ := Option.bind_eq_some_iff.1 hm
    split at h2
    · rename_i hlen
      simp only [Option.some.injEq, Prod.mk.injEq] at h2
      obtain ⟨rfl, rfl⟩ := h2
      obtain ⟨u, rfl, hu⟩ := hA.one
      have hu := rel_nrm hu
      obtain ⟨k, a0, a1, a2, a3, ks, hx⟩ := oTx_form ht
      have hua : ∃ p n cap, u = .agg #[.int .i64 k, .int .u64 a0, .int .u64 a1, .int .u64 a2, .int .u64 a3, .slice p n cap] := by
        rw [hx] at hu
        obtain ⟨p, n, cap, e, _⟩ := rel_re hu
        exact ⟨p, n, cap, e⟩
      obtain ⟨p, n, cap, rfl⟩ := hua
      generalize x.nrm = y at ht hu hx
      have hcl : y.clean = true := by
        subst hx
        obtain ⟨p2, n2, cap2, _, hks⟩ := rel_re hu
        have : cleanL ks = true := by cases hks; assumption
        simp only [V.clean, cleanL, this, Bool.and_self]
      clear hx
      have hw := fun (w : World) (b : Nat) (hbw : Below S.w.heap.size S.w w) (hBb : S.w.heap.size ≤ b) (hI : Lib.IsBuilderF 67 5 S.w.heap.size b (Lib.byteCells []) w) => write_walk hcall hS rfl 1000000 y t ht hcl _ hu [] w b hbw hBb hI (by simpa using hlen)
      have hI0 : ∀ o, Lib.IsBuilderF 67 5 S.w.heap.size (S.w.heap.size + 1) [] ((S.w.alloc o).alloc (.cells #[.pointer none, .slice none 0 0] 67)) := fun o =>
        Lib.IsBuilderF.of (.inl ⟨by omega, .slice none 0 0, by have := heap_alloc_new (S.w.alloc o) (.cells #[.pointer none, .slice none 0 0] 67); simpa using this, World.ownsRow_nil _ _ _ _, by simp [Value.ownBlock]⟩)
      have hb0 : ∀ o o', Below S.w.heap.size S.w ((S.w.alloc o).alloc o') := fun o o' => ((Below.refl S.w.heap.size S.w).alloc (o := o) (Nat.le_refl _)).alloc (by simp) _
      simp only [List.nil_append] at hw
      generalize hB : S.w.heap.size = B at hw hI0 hb0
      clear hu
      suffices hh : Calls Tryd.prog 20 #[.agg #[.int .i64 k, .int .u64 a0, .int .u64 a1, .int .u64 a2, .int .u64 a3, .slice p n cap]] S.w fun e w' => e = .returned (.string ⟨t.toArray⟩) ∧ Below B S.w w' by
        refine hh.mono fun e w' he => ?_
        obtain ⟨rfl, hb⟩ := he
        subst hB
        have hg := below_grew hb
        exact ⟨S.at w', ⟨rfl, rfl, rfl, at_ext hS hg, at_sim hS hg, Bd.refl _ _⟩, rel_str_mk _ _⟩
      go_enter Tryd.func20, Tryd.ntmps20
      go_wp2_with (go_at_call 46; refine (hw _ (B + 1) (hb0 _ _) (Nat.le_succ _) (hI0 _)).mono ?_)
      rintro e w1 ⟨rfl, i1, b1⟩
      go_wp2_with (go_at_call 47; refine (Tryd.Builder_String_any_k B (B + 1) t w1 i1 (by have := b1.size; omega)).mono ?_)
      rintro e w2 ⟨rfl, i2, b2, _⟩
      go_wp2
      go_ret
      exact ⟨rfl, b1.trans b2⟩
    · cases h2
  · cases hm

/-! One more ahead. -/
theorem relA_three {S : Ctx} {v v' v'' : V} {us : Array Value} (h : RelA S [v, v', v''] us) : ∃ u u' u'', us = #[u, u', u''] ∧ Rel S v u ∧ Rel S v' u' ∧ Rel S v'' u'' := by
  have h2 := h.size
  simp at h2
  refine ⟨us[0], us[1], us[2], ?_, h.get 0 v us[0] rfl (by simp [h2]), h.get 1 v' us[1] rfl (by simp [h2]), h.get 2 v'' us[2] rfl (by simp [h2])⟩
  apply Array.ext (by simp [h2])
  intro i hi hj
  match i with
  | 0 => rfl
  | 1 => rfl
  | 2 => rfl
  | i + 3 => simp at hj; omega
/-- Stores into a row's block. -/
theorem set_row {S : Ctx} {w : World} {g : Nat} {cells : Array Value} {e : TypeId} {cs xs : List V} {us : List Value} (hw : w.heap[g]? = some (.cells cells e (0, 0))) (hc : CellsRel S cs cells) (hx : RelA S xs us.toArray) (hs : scalL xs = true)
    {off : Nat} (hle : off + xs.length ≤ cs.length) (hl : cs.length ≤ cells.size) :
    Written w (w.setCells g off us) g ∧ ∃ cells', (w.setCells g off us).heap[g]? = some (.cells cells' e (0, 0)) ∧ cells'.size = cells.size ∧ CellsRel S (splice cs off xs) cells' := by
  have hone := one_of hx hs
  have hxs : us.length = xs.length := by simpa using hx.size
  obtain ⟨w', cells', r1, r2, r3, r4, r5⟩ := run_storeCells (P := Tryd.prog) hw (unfrozen0 _) off us 0 w cells hw (unfrozen0 _) (by simpa using hone) (by omega)
  have h2 := run_storeCells_cells (P := Tryd.prog) g off us 0 w (fun j hj => by simp [World.cell?, hw]; omega) (fun j hj => by simp [World.frozen?, hw]) (by simpa using hone)
  rw [r1] at h2
  simp only [Nat.add_zero] at h2
  injection h2 with _ h2
  rw [← h2]
  exact ⟨r2, cells', r3, r4, splice_cells hc hx hle (by simpa using r5)⟩
theorem Written.two {w w1 w2 : World} {c : Nat} (h : Written w w1 c) (k : Written w1 w2 c) : Written w w2 c :=
  ⟨k.size.trans h.size, fun d hd => (k.old d hd).trans (h.old d hd), k.os.trans h.os, k.tape.trans h.tape, k.output.trans h.output⟩
theorem insert_mod : Mod tabs Tryd.prog 40 iInsert := by
  intro args H r H' hm S uargs hH hS hA
  subst hH
  refine ⟨enters Tryd.func40 (by kernel_rfl) (by kernel_rfl) _ _, ?_⟩
  unfold iInsert at hm
  split at hm
  · rename_i i ver n x
    split at hm
    · rename_i vv cs hg
      split at hm
      · rename_i hc
        obtain ⟨rfl, hxl, hxs, hroom, hn, hsc⟩ := hc
        simp only [Option.some.injEq, Prod.mk.injEq] at hm
        obtain ⟨rfl, rfl⟩ := hm
        obtain ⟨u, u', u'', rfl, hu, hu', hu''⟩ := relA_three hA
        obtain rfl := rel_int_inv hu'
        cases hu with
        | rs _ _ _ _ _ ad cap hi hcap hh =>
        obtain ⟨_, e1⟩ := hh ver (by simp [curVer, hg, blkVer])
        obtain ⟨ag2, cs2, cells, el, fr, q1, q2, q3, q4⟩ := e1 rfl
        rw [hg] at q1; injection q1 with q1; injection q1 with _ _ q0 q1; subst q0; subst q1
        obtain ⟨cells', el', fr', g1, g2, g3, g4, g5⟩ := hS.blk i _ hg
        rw [q2] at g1; injection g1 with g1; injection g1 with g1 g1' g1''; subst g1; subst g1'; subst g1''
        have hfr := g4.2 rfl
        subst hfr
        have hli : S.live i := live_hget hg rfl
        simp only [Nat.zero_add] at q3
        have hcap1 : n + 1 ≤ cap := by omega
        have had := q4 (by omega)
        simp only [Nat.zero_mul] at had
        subst had
        cases hu'' with
        | vs _ a m vc c off sz us hm hvc hcl ha hsz h1 h2 =>
        subst hm
        obtain ⟨rfl, hfc, hclt⟩ := ha (by simp)
        have hsz6 : sz = 6 := by rw [← hsz 0 _ rfl]; exact hxl
        subst hsz6
        have hne : c ≠ S.ρ i := fun e => hfc.1 ⟨i, hli, e.symm⟩
        have hxr : RelA S x ((List.range 6).map us).toArray := by
          refine ⟨by simp [hxl], fun j y u hy hu => ?_⟩
          have hj : j < 6 := by rw [← hxl]; exact (List.getElem?_eq_some_iff.1 hy).1
          have := h2 0 _ j y rfl hy
          simp [hj] at hu
          subst hu
          simpa using this
        have hlx : x.length = 6 := hxl
        have hxc : ∀ j v, ((List.range 6).map us)[j]? = some v → S.w.cell? ⟨c, off + j, none⟩ = some v := fun j v hj => by
          have hj6 : j < 6 := by have := (List.getElem?_eq_some_iff.1 hj).1; simpa using this
          rw [List.getElem?_map] at hj
          obtain ⟨k, hk, rfl⟩ := Option.map_eq_some_iff.1 hj
          rw [List.getElem?_range (by have := (List.getElem?_eq_some_iff.1 hk).1; simpa using this)] at hk
          injection hk with hk
          subst hk
          have := h1 0 (.agg x) j (x[j]'(by omega)) rfl (List.getElem?_eq_getElem (show j < x.length by omega))
          simpa using this
        have h1x := one_of hxr hxs
        obtain ⟨oldc, hold⟩ : ∃ o, o = cells.toList.take (n * 6) := ⟨_, rfl⟩
        have hor : RelA S (cs.take (n * 6)) oldc.toArray := by
          subst hold
          refine ⟨by simp; omega, fun j y u hy hu => ?_⟩
          rw [List.getElem?_take] at hy
          split at hy
          · rename_i hlt
            obtain ⟨u', k1, k2⟩ := g5 j y hy
            simp [List.getElem?_take, hlt, k1] at hu
            subst hu; exact k2
          · simp at hy
        have h1o := one_of hor hsc
        obtain ⟨tA, kA, hsa, hkA⟩ : ∃ tA kA, S.w.shape? c = some (tA, kA) ∧ kA ≠ 0 := by
          have h0 := h1 0 (.agg x) 0 (x[0]'(by omega)) rfl (List.getElem?_eq_getElem (show 0 < x.length by omega))
          unfold World.cell? at h0
          simp only at h0
          split at h0
          · rename_i cc ee ff hcc
            refine ⟨ee, cc.size, by simp [World.shape?, hcc], fun e0 => ?_⟩
            have := (Array.getElem?_eq_some_iff.1 h0).1
            omega
          · cases h0
        -- what the block becomes
        have hlen6 : ((List.range 6).map us).length = 6 := by simp
        have hxl6 : x.length = 6 := hxl
        have htl : (cs.take (n * 6)).length = n * 6 := by rw [List.length_take]; omega
        have hCS : (x ++ cs.take (n * 6) ++ cs.drop ((n + 1) * 6)).length = cs.length := by simp only [List.length_append, htl, List.length_drop]; omega
        have fin : ∀ (w' : World) (cells' : Array Value), Written S.w w' (S.ρ i) → w'.heap[S.ρ i]? = some (.cells cells' el (0, 0)) → cells'.size = cells.size → CellsRel S (x ++ cs.take (n * 6) ++ cs.drop ((n + 1) * 6)) cells' →
            ∃ S', To tabs S.H.length S S' (hset S.H i (.row ver 6 true (x ++ cs.take (n * 6) ++ cs.drop ((n + 1) * 6)))) w' ∧ RelOut S' (.ret (.rs i ver 6 0 (n + 1))) (.returned (.slice (some ⟨S.ρ i, 0, none⟩) (n + 1) cap)) := by
          intro w' cells' r2 r3 r4 hcr
          have hxm : maxRefL x = 0 := by
            have h0 : (V.agg x).clean = true := by simpa [cleanL] using hcl
            exact clean_refL (by simpa [V.clean] using h0)
          have hmr : ∀ m, maxRefL cs ≤ m → maxRefL (x ++ cs.take (n * 6) ++ cs.drop ((n + 1) * 6)) ≤ m := fun m hm =>
            maxRefL_append.2 ⟨maxRefL_append.2 ⟨by omega, maxRefL_le.2 fun y hy => maxRefL_le.1 hm y (List.mem_of_mem_take hy)⟩, maxRefL_le.2 fun y hy => maxRefL_le.1 hm y (List.mem_of_mem_drop hy)⟩
          generalize x ++ cs.take (n * 6) ++ cs.drop ((n + 1) * 6) = CS at hCS hcr hmr
          have hshape : sameShape S.w w' (S.ρ i) (.row ver 6 true cs) (.row ver 6 true CS) := fun v sz ag cs2 eb => by
            simp at eb; obtain ⟨rfl, rfl, rfl, rfl⟩ := eb
            exact ⟨⟨_, rfl⟩, fun cells2 e2 fr2 q => by rw [q2] at q; injection q with q; injection q with q; subst q; exact ⟨cells', el, (0, 0), r3, r4⟩⟩
          have hxe := put_ext hS (b' := .row ver 6 true CS) hg rfl rfl r2 hshape
          refine ⟨S.put i _ w', ⟨rfl, rfl, rfl, hxe, put_sim hS hg rfl rfl r2 hshape ⟨cells', el, (0, 0), r3, by rw [hCS, r4]; exact g2, g3, by rw [r4]; exact g4, hcr.mono hxe⟩, Bd.set (.inr fun m hm hb => hmr m (hb _ hg))⟩, ?_⟩
          refine .rs _ _ _ _ _ _ _ (by simpa [Ctx.put] using hi) hcap1 fun v hv => ?_
          have hv' : v = ver := by simpa [Ctx.put, curVer, hget_hset_eq _ hi, blkVer] using hv.symm
          subst hv'
          exact ⟨Nat.le_refl _, fun _ => ⟨true, _, cells', el, (0, 0), by simp only [Ctx.put]; rw [hget_hset_eq _ hi], r3, by rw [r4]; simpa using q3, fun _ => by simp [Ctx.put]⟩⟩
        have hxr1 : RelA S x ((List.range 6).map us).toArray := hxr
        generalize hU : (List.range 6).map us = U at hxr hxc h1x hlen6
        by_cases hn0 : n = 0
        · subst hn0
          have key := insert_first (S.ρ i) cap c off vc cells el S.w q2 q3 (by omega) (by omega) U hxc hlen6 h1x hne
          obtain ⟨t1, cells', t2, t3, t4⟩ := set_row (off := 0) q2 g5 hxr hxs (by omega) g2
          refine key.mono fun e w' he => ?_
          obtain ⟨rfl, rfl⟩ := he
          refine fin _ cells' t1 t2 t3 ?_
          have : splice cs 0 x = x ++ cs.take (0 * 6) ++ cs.drop ((0 + 1) * 6) := by
            unfold splice
            simp [hxl6]
          rw [← this]; exact t4
        · have key := insert_shift (S.ρ i) n cap c off vc cells el S.w q2 q3 (by omega) hcap1 (by omega) U oldc hxc hlen6 h1x hne hold.symm h1o tA kA hsa hkA
          obtain ⟨t1, cells1, t2, t3, t4⟩ := set_row (w := S.w.drew) (off := 6) (us := oldc) q2 g5 hor hsc (by omega) g2
          have hl1 : (splice cs 6 (cs.take (n * 6))).length = cs.length := splice_length (by omega)
          obtain ⟨v1, cells2, v2, v3, v4⟩ := set_row (off := 0) (us := U) t2 t4 hxr hxs (by omega) (by omega)
          refine key.mono fun e w' he => ?_
          obtain ⟨rfl, rfl⟩ := he
          refine fin _ cells2 (Written.two (Written.two (w1 := S.w.drew) ⟨rfl, fun _ _ => rfl, rfl, rfl, rfl⟩ t1) v1) v2 (v3.trans t3) ?_
          have : splice (splice cs 6 (cs.take (n * 6))) 0 x = x ++ cs.take (n * 6) ++ cs.drop ((n + 1) * 6) := by
            have h6 : (cs.take 6).length = 6 := by rw [List.length_take]; omega
            unfold splice
            rw [htl, hxl6]
            simp only [List.take_zero, List.nil_append, Nat.zero_add]
            rw [List.append_assoc, List.append_assoc, List.drop_append_of_le_length (by omega), List.drop_of_length_le (by omega), List.nil_append, show (n + 1) * 6 = 6 + n * 6 by omega]
          rw [← this]; exact v4
      · cases hm
    · cases hm
  · cases hm

theorem intrOK : ∀ f g, hint.intr f = some g → Mod tabs Tryd.prog f g := by
  intro f g h
  have hm := intr_of _ f g h
  simp only [List.mem_cons, List.not_mem_nil, or_false, Prod.mk.injEq] at hm
  rcases hm with ⟨rfl, rfl⟩ | ⟨rfl, rfl⟩ | ⟨rfl, rfl⟩ | ⟨rfl, rfl⟩ | ⟨rfl, rfl⟩ | ⟨rfl, rfl⟩
  · exact itoa_mod (fun n h0 h1 w ht => Tryd.strconv_Itoa n h0 h1 w ht) (fun S hS => tab_pow hS) (enters Tryd.func73 (by kernel_rfl) (by kernel_rfl))
  · exact join_mod (fun a c sep w => Tryd.strings_Join_none a c sep w) (fun bk o c xs sep w h1 h2 h3 h4 h5 => Tryd.strings_Join bk o c xs sep w h1 h2 h3 h4 h5) (enters Tryd.func74 (by kernel_rfl) (by kernel_rfl))
  · exact tz_mod (fun x w h0 h1 ht => tz_walk x w h0 h1 ht) (fun S hS => tab_tz hS) (enters Tryd.func83 (by kernel_rfl) (by kernel_rfl))
  · exact cmp_mod
  · exact ranges_mod
  · exact insert_mod
theorem D_ok : DefOK tabs Tryd.prog D := dfr0_ok mixed namesOK
theorem orcOK : ∀ f g, hint.orc f = some g → ∀ call, CallOK tabs Tryd.prog call → Mod tabs Tryd.prog f (g call) := by
  intro f g h call hcall
  have hm := orc_of orcT f g h
  simp only [orcT, List.mem_cons, List.not_mem_nil, or_false, Prod.mk.injEq] at hm
  obtain ⟨rfl, rfl⟩ := hm
  exact txt_mod hcall
theorem E_ok : CallOK tabs Tryd.prog E := EV_ok D_ok mixed namesOK intrOK orcOK
theorem laidB : laidOutB Tryd.prog = true := by kernel_rfl
theorem ownB : ownKnob Tryd.prog.godebug = none := by kernel_rfl
end Go.Proofs.YtjnkigaiogjfcaaDoor
end

section
/- A world in which the tables lie; what a row's list says of them. -/
namespace Go.Proofs.YtjnkigaiogjfcaaDoor
open Go Go.Ev Go.RowKit
set_option linter.unusedVariables false

noncomputable def laidWorld (os : Os) : World :=
 let w0 := World.holding Tryd.prog os ⟨#[], #[], []⟩
 let put (h : Array Obj) (g : Nat) (cs : Array Value) : Array Obj := h.modify g fun
  | .cells _ t frozen => .cells cs t frozen
  | o => o
 let h1 := put w0.heap 2 (Lib.pow10Tab.map fun z => Value.int .u64 z).toArray
 let h2 := put h1 3 (Lib.deBruijn32tab.map fun (z : Nat) => Value.int .u8 (z : Int)).toArray
 let h3 := put h2 1 (tzTab.map fun z => Value.int .u8 z).toArray
 { w0 with heap := h3 }
def laidL : List (String × DataW Unit) := [("math/bits.deBruijn32tab", Rows.laid_math_bits_deBruijn32tab), ("math/bits.deBruijn64tab", Rows.laid_math_bits_deBruijn64tab), ("internal/strconv.uint64pow10", Rows.laid_internal_strconv_uint64pow10)]
theorem laid_met (os : Os) (args : Array Value) : laidMet Tryd.prog laidL ((laidWorld os).forCall (fun _ _ => 0) ⟨#[], args, []⟩).memory :=
 laidMet_of_run' 8 (by kernel_rfl) (by kernel_rfl)
theorem pow_name : Tryd.prog.globalNamed "internal/strconv.uint64pow10" = some 2 := by kernel_rfl
theorem tz_name : Tryd.prog.globalNamed "math/bits.deBruijn64tab" = some 1 := by kernel_rfl
/-- What a row's list says. -/
theorem laid_open {l : List (String × DataW Unit)} (hl : (l.filter fun x => x.2.handleName?.isSome) = []) {W : World} (h : laidMetH Tryd.prog l W) : laidMet Tryd.prog l W := by
 unfold laidMetH at h
 rw [hl] at h
 exact h
theorem laid_tabs {l : List (String × DataW Unit)} {W : World} (h1 : ("internal/strconv.uint64pow10", Lib.tabData .u64 Lib.pow10Tab) ∈ l) (h2 : ("math/bits.deBruijn64tab", Lib.tabData .u8 tzTab) ∈ l) (h : laidMet Tryd.prog l W) : Laid tabs W := by
 have t1 := tabIs_mem pow_name (t := 114) (by kernel_rfl) Tryd.underlying114 Tryd.underlying23 (by kernel_rfl) (by kernel_rfl) h h1
 have t2 := tabIs_mem tz_name (t := 107) (by kernel_rfl) Tryd.underlying107 Tryd.underlying5 (by kernel_rfl) (by kernel_rfl) h h2
 intro c us hc
 rcases hc with ⟨rfl, rfl⟩ | ⟨rfl, rfl⟩
 ·exact tabIs_block pow_name t1
 ·exact tabIs_block tz_name t2
theorem laid_mem1 {l : List (String × DataW Unit)} : ("internal/strconv.uint64pow10", Lib.tabData .u64 Lib.pow10Tab) ∈ laidL ++ l := by
 rw [show (Lib.tabData .u64 Lib.pow10Tab : DataW Unit) = Rows.laid_internal_strconv_uint64pow10 by kernel_rfl]
 simp [laidL]
theorem laid_mem2 {l : List (String × DataW Unit)} : ("math/bits.deBruijn64tab", Lib.tabData .u8 tzTab) ∈ laidL ++ l := by
 rw [show (Lib.tabData .u8 tzTab : DataW Unit) = Rows.laid_math_bits_deBruijn64tab by kernel_rfl]
 simp [laidL]
end Go.Proofs.YtjnkigaiogjfcaaDoor
end

