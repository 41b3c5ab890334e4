/- Lib: a part of the proof that each law of this seat answers true at every input. No condition. -/
import Derived.Test.YthcjjicplodhjaaDoorRows
import Derived.WalkKit
import Derived.Lib.Strings
import Derived.Lib.Slices
import Derived.Lib.Walk
import Derived.Lib.Bytealg
import Derived.Test.YthcjjicplodhjaaDoorHint
import Derived.Test.YthcjjicplodhjaaDoorShelf
import Derived.Test.YthcjjicplodhjaaDoorEvG
import Derived.Shelf.Strings.BuilderK
import Derived.BigCall
import Derived.Deep.RegionWith
import Derived.BigRegion
import Derived.Lib.TrailingZeros
import Derived.Lib.LaidU8
import Derived.Lib.LaidCaseMet
set_option linter.unusedVariables false
set_option linter.unusedSimpArgs false
set_option maxRecDepth 20000
section
/- The library's functions that this program calls: what the evaluator says of them is so. -/
namespace Go.Proofs.YthcjjicplodhjaaDoor
open Go Go.Ev Go.RowKit
set_option linter.unusedVariables false

set_option maxHeartbeats 1000000 in
set_option maxRecDepth 100000 in
theorem stringslite_IndexByte (s : ByteArray) (c : Int) (w : World) :
    Calls Tryd.prog 50 #[.string s, .int .u8 c] w fun e w' => e = .returned (.int .i64 (Lib.indexByte s.data.toList c.toNat.toUInt8)) ∧ w' = w := by
  go_enter Tryd.func50, Tryd.ntmps50
  go_wp2
  rw [run_callFunc_extern Tryd.func69 (by kernel_rfl) (by kernel_rfl) (by kernel_rfl) (e := Extern.BytealgIndexByte.indexByte) (by kernel_rfl), Lib.run_indexByteString]
  simp only [Result.andThen]
  rw [Oper.upon_value]
  go_wp2
  go_ret
  exact ⟨rfl, rfl⟩
set_option maxHeartbeats 1000000 in
theorem strings_IndexByte (s : ByteArray) (c : Int) (w : World) :
    Calls Tryd.prog 34 #[.string s, .int .u8 c] w fun e w' => e = .returned (.int .i64 (Lib.indexByte s.data.toList c.toNat.toUInt8)) ∧ w' = w := by
  go_enter Tryd.func34, Tryd.ntmps34
  go_wp2_with (go_at_call 50; refine (stringslite_IndexByte _ _ _).mono ?_; rintro e w' ⟨rfl, rfl⟩)
  go_ret
  exact ⟨rfl, rfl⟩
set_option maxHeartbeats 1000000 in
theorem tz_zero (w : World) : Calls Tryd.prog 112 #[.int .u64 0] w fun e w' => e = .returned (.int .i64 64) ∧ w' = w := by
  go_enter Tryd.func112, Tryd.ntmps112
  go_wp2
  go_ret
  exact ⟨rfl, rfl⟩
set_option maxHeartbeats 1000000 in
theorem tz_core (x : Int) (k idx : Nat) (w : World) (hx0 : (x == 0) = false)
    (key : IntKind.u64.wrap (bits BinOp.and IntKind.u64 x (IntKind.u64.wrap (-x)) * 285870213051353865) / 288230376151711744 = (idx : Int))
    (hi : idx < 64) (hk : k < 64) (hcell : w.cell? ⟨6, idx, none⟩ = some (.int .u8 k)) :
    Calls Tryd.prog 112 #[.int .u64 x] w fun e w' => e = .returned (.int .i64 k) ∧ w' = w := by
  go_enter Tryd.func112, Tryd.ntmps112
  go_wp2_with (simp only [key])
  go_ret
  exact ⟨rfl, rfl⟩
theorem tz_walk (x : Int) (w : World) (h0 : 0 ≤ x) (h1 : x ≤ 18446744073709551615) (hT : Lib.TabIs Tryd.prog w "math/bits.deBruijn64tab" .u8 tzTab) :
    Calls Tryd.prog 112 #[.int .u64 x] w fun e w' => e = .returned (.int .i64 (if x = 0 then 64 else tzTab.getD (tzIdx x).toNat 0)) ∧ Below w.heap.size w w' := by
  by_cases hx : x = 0
  · subst hx
    refine (tz_zero w).mono fun e w' he => ?_
    obtain ⟨rfl, rfl⟩ := he
    exact ⟨rfl, Below.refl _ _⟩
  · have hlo : 0 ≤ tzIdx x ∧ tzIdx x < 64 := by
      unfold tzIdx
      rw [Int.fdiv_eq_ediv_of_nonneg _ (by omega), IntKind.wrap_u64]
      omega
    have hi : (tzIdx x).toNat < 64 := by omega
    have ht : ∀ i, i < 64 → ∃ k : Nat, k < 64 ∧ tzTab.getD i 0 = k := by decide
    obtain ⟨k, hk, hv⟩ := ht _ hi
    have hc := hT.cell (show Tryd.prog.globalNamed "math/bits.deBruijn64tab" = some 6 by kernel_rfl) (tzIdx x).toNat (by simpa [tzTab] using hi)
    rw [hv] at hc
    rw [if_neg hx, hv]
    refine (tz_core x k (tzIdx x).toNat w (by simpa using hx) ?_ hi hk hc).mono fun e w' he => ?_
    · rw [show ((tzIdx x).toNat : Int) = tzIdx x by omega]
      unfold tzIdx
      rw [Int.fdiv_eq_ediv_of_nonneg _ (by omega), Int.zero_sub]
      rfl
    · obtain ⟨rfl, rfl⟩ := he
      exact ⟨rfl, Below.refl _ _⟩

/-- What lies in the package's variables. -/
def tabs : Tabs := fun c us => (c = 1 ∧ us = (Lib.pow10Tab.map fun z => Value.int .u64 z).toArray) ∨ (c = 6 ∧ us = (tzTab.map fun z => Value.int .u8 z).toArray)
theorem tab_pow {S : Ctx} (h : Sim tabs S) : Lib.TabIs Tryd.prog S.w "internal/strconv.uint64pow10" .u64 Lib.pow10Tab := tab_of h (show Tryd.prog.globalNamed "internal/strconv.uint64pow10" = some 1 by kernel_rfl) (.inl ⟨rfl, rfl⟩)
theorem tab_tz {S : Ctx} (h : Sim tabs S) : Lib.TabIs Tryd.prog S.w "math/bits.deBruijn64tab" .u8 tzTab := tab_of h (show Tryd.prog.globalNamed "math/bits.deBruijn64tab" = some 6 by kernel_rfl) (.inr ⟨rfl, rfl⟩)

theorem mixed : Tryd.prog.follows .mixedOrders = true := by kernel_rfl
theorem namesB : (Tryd.prog.funcs.all fun fn => !fn.body.isSome || !(fn.name == "runtime.NumGoroutine")) = true := by kernel_rfl
theorem namesOK : NameOK Tryd.prog := by
  intro f fn hf hb
  have h := namesB
  rw [Array.all_eq_true_iff_forall_mem] at h
  have := h fn (Array.mem_of_getElem? hf)
  simpa [hb] using this
theorem intr_of : ∀ (l : List (Nat × (List V → Heap → Option (Out × Heap)))) (f : Nat) (g : List V → Heap → Option (Out × Heap)), intrAt l f = some g → (f, g) ∈ l
  | [], f, g, h => by cases h
  | (i, g') :: r, f, g, h => by
    unfold intrAt at h
    split at h
    · rename_i he
      injection h with h
      subst h
      have := Nat.eq_of_beq_eq_true he
      subst this
      exact List.mem_cons_self
    · exact List.mem_cons_of_mem _ (intr_of r f g h)
theorem intrOK : ∀ f g, hint.intr f = some g → Mod tabs Tryd.prog f g := by
  intro f g h
  have hm := intr_of _ f g h
  simp only [List.mem_cons, List.not_mem_nil, or_false, Prod.mk.injEq] at hm
  rcases hm with ⟨rfl, rfl⟩ | ⟨rfl, rfl⟩ | ⟨rfl, rfl⟩ | ⟨rfl, rfl⟩ | ⟨rfl, rfl⟩
  · exact iIndexByte_mod strings_IndexByte (enters Tryd.func34 (by kernel_rfl) (by kernel_rfl))
  · exact itoa_mod (fun n h0 h1 w ht => Tryd.strconv_Itoa n h0 h1 w ht) (fun S hS => tab_pow hS) (enters Tryd.func62 (by kernel_rfl) (by kernel_rfl))
  · exact upper_mod (fun s w h1 h2 => Tryd.strings_ToUpper_ascii s w h1 h2) (enters Tryd.func77 (by kernel_rfl) (by kernel_rfl))
  · exact join_mod (fun a c sep w => Tryd.strings_Join_none a c sep w) (fun bk o c xs sep w h1 h2 h3 h4 h5 => Tryd.strings_Join bk o c xs sep w h1 h2 h3 h4 h5) (enters Tryd.func43 (by kernel_rfl) (by kernel_rfl))
  · exact tz_mod (fun x w h0 h1 ht => tz_walk x w h0 h1 ht) (fun S hS => tab_tz hS) (enters Tryd.func112 (by kernel_rfl) (by kernel_rfl))
theorem D_ok : DefOK tabs Tryd.prog D := dfr0_ok mixed namesOK
theorem laidB : laidOutB Tryd.prog = true := by kernel_rfl
theorem ownB : ownKnob Tryd.prog.godebug = none := by kernel_rfl
end Go.Proofs.YthcjjicplodhjaaDoor
end

section
/- The teller's Tell: what the evaluator says of it is so. -/
namespace Go.Proofs.YthcjjicplodhjaaDoor
open Go Go.Ev Go.RowKit
set_option linter.unusedVariables false

theorem WriteString_k (B b : Nat) (bs : List Value) (s : ByteArray) (w : World) (h : Lib.IsBuilderF (Tryd.lays158_ren.t 72) (Tryd.lays158_ren.t 5) B b bs w) (hlen : bs.length + s.size ≤ 140737488355328) (hBw : B ≤ w.heap.size) :
    Calls Tryd.prog 25 #[.pointer (some ⟨b, 0, none⟩), .string s] w fun e w' => e = .returned (.tuple #[.int .i64 s.size, .nilIface]) ∧ (Lib.BuilderAtF (Tryd.lays158_ren.t 72) (Tryd.lays158_ren.t 5) B b (.pointer (some ⟨b, 0, none⟩)) (bs ++ Lib.strCells s) w' ∧ Below B w w' ∧ Lib.OthersKept (Tryd.lays158_ren.t 5) (some b) w w') :=
  Any.Builder_WriteString_k (ρ := Tryd.lays158_ren) { Tryd.lays158 with } Tryd.Builder_Extra_158 B b bs s w h hlen hBw

theorem relA1 {S : Ctx} {v : V} {u : Value} (h : Rel S v u) : RelA S [v] #[u] := ⟨rfl, fun j x y hx hy => by
  match j with
  | 0 => simp at hx hy; subst hx; subst hy; exact h
  | j + 1 => simp at hx⟩
theorem builder_grew {T e : TypeId} {B b : Nat} {bs : List Value} {w w' : World} (hg : Grew w w') (h : Lib.IsBuilderF T e B b bs w) : Lib.IsBuilderF T e B b bs w' := by
  have hk : w.grownBy w' none := ⟨hg.os, hg.tape, hg.output, hg.size, fun k hk _ => hg.old k hk⟩
  have at1 : ∀ p, Lib.BuilderAtF T e B b p bs w → Lib.BuilderAtF T e B b p bs w' := fun p h => by
    have hlt := h.lt
    obtain ⟨hB, v, hb, hown, hne⟩ := h
    exact ⟨hB, v, (hg.old b hlt).trans hb, hown.kept hk (by cases hv : v.ownBlock <;> simp), hne⟩
  exact h.elim (fun x => .inl (at1 _ x)) (fun x => .inr (at1 _ x))
theorem below_then {B : Nat} {a w w' : World} (h : Below B a w) (hB : B ≤ w.heap.size) (hg : Grew w w') : Below B a w' :=
  h.trans ⟨hg.os, hg.tape, hg.output, hg.size, fun k hk => hg.old k (by omega)⟩
theorem relT2 {S : Ctx} {v v' : V} {u u' : Value} (h : Rel S v u) (h' : Rel S v' u') : Rel S (.tup [v, v']) (.tuple #[u, u']) := .tup _ _ rfl fun j x y hx hy => by
  match j with
  | 0 => simp at hx hy; subst hx; subst hy; exact h
  | 1 => simp at hx hy; subst hx; subst hy; exact h'
  | j + 2 => simp at hx
theorem line_size (bs q tt : ByteArray) : (bs ++ q ++ tt ++ ({ data := #[10] } : ByteArray)).size = bs.size + q.size + tt.size + 1 := by
  simp only [ByteArray.size_append]
  rfl
theorem line_bytes (bs q tt : ByteArray) : (bs ++ q ++ tt ++ ({ data := #[10] } : ByteArray)).data.toList = bs.data.toList ++ q.data.toList ++ tt.data.toList ++ [10] := by
  simp
theorem rel_bool_inv {S : Ctx} {b : Bool} {u : Value} (h : Rel S (.bool b) u) : u = .bool b := by cases h; rfl

set_option maxHeartbeats 4000000 in
set_option maxRecDepth 1000000 in
theorem tell_walk {call : CallO} (hcall : CallOK tabs Tryd.prog call) {S : Ctx} (hS : Sim tabs S) {xs : List V} {a : Option Addr} {n cap : Nat} (hn : n = xs.length) (hcap : n ≤ cap) (hnm : n ≤ 4611686018427387904) (hcl : cleanL xs = true)
    {c off sz : Nat} {us : Nat → Value} (ha : xs ≠ [] → a = some ⟨c, off, none⟩ ∧ S.free c ∧ c < S.w.heap.size) (hsz : ∀ (i : Nat) (x : V), xs[i]? = some x → x.cells.length = sz)
    (hc1 : ∀ (i : Nat) (x : V) (j : Nat) (y : V), xs[i]? = some x → x.cells[j]? = some y → S.w.cell? ⟨c, off + (i * sz + j), none⟩ = some (us (i * sz + j))) (hc2 : ∀ (i : Nat) (x : V) (j : Nat) (y : V), xs[i]? = some x → x.cells[j]? = some y → Rel S y (us (i * sz + j)))
    {v : V} {H' : Heap} (hm : oTellL call 17 19 26 S.H xs [] = some (.ret v, H')) :
    Calls Tryd.prog 13 #[.slice a n cap] S.w fun e w' => H' = S.H ∧ ∃ u, e = .returned u ∧ Below S.w.heap.size S.w w' ∧ ∀ S', Ext S S' → Rel S' v u := by
  subst hn
  have hgr0 : ∀ w', Below S.w.heap.size S.w w' → Grew S.w w' := fun w' h => below_grew h
  have hcb : xs ≠ [] → c < S.w.heap.size := fun h => (ha h).2.2
  have hB0 : ∀ w', Below S.w.heap.size S.w w' → S.w.heap.size ≤ w'.heap.size := fun w' h => h.size
  generalize hB : S.w.heap.size = B at hgr0 hcb hB0
  go_enter Tryd.func13, Tryd.ntmps13
  go_wp2
  go_loopw [10] (fun i wr => ∃ (k : Nat) (acc : List UInt8), i = .int .i64 k ∧ k ≤ xs.length ∧ Lib.IsBuilderF (Tryd.lays158_ren.t 72) (Tryd.lays158_ren.t 5) B B (Lib.byteCells acc) wr ∧ Below B S.w wr ∧
    oTellL call 17 19 26 S.H (xs.drop k) acc = some (.ret v, H') ∧ acc.length ≤ 100000000000000) (fun i _ => xs.length - (intOf i).toNat)
  case atStart =>
    refine ⟨0, [], rfl, Nat.zero_le _, ?_, ?_, hm, by simp⟩
    · have := Lib.IsBuilderF.of (Lib.fresh_isBuilder (Tryd.lays158_ren.t 72) (Tryd.lays158_ren.t 5) S.w)
      rw [hB] at this
      exact this
    · have := (Below.refl B S.w).alloc (Nat.le_of_eq hB.symm)
      exact this _
  case round =>
    obtain ⟨k, acc, rfl, hk, hI, hbw, hmk, hacc⟩ := hrel
    have hBw := hB0 _ hbw
    by_cases hlt : k < xs.length
    · have hx : xs[k]? = some xs[k] := List.getElem?_eq_getElem hlt
      rw [List.drop_eq_getElem_cons hlt] at hmk
      generalize xs[k] = x at hmk hx
      have hclx := cleanL_get hcl hx
      obtain ⟨nm, more, e0, e1, e2, e3, e4, e5, rfl, hcase⟩ := oTellL_cons hmk
      · skip
        obtain rfl : sz = 8 := (hsz k _ hx).symm
        have hne : xs ≠ [] := by rintro rfl; simp at hlt
        obtain ⟨rfl, hfc, -⟩ := ha hne
        have hcw := hcb hne
        have hcell : ∀ (j : Nat) (y : V), (V.agg [.str nm, .bool more, .int .i64 e0, .str e1, .vs e2, .int .i64 e3, .int .i64 e4, .vs e5]).cells[j]? = some y → ∃ u, wr.cell? ⟨c, off + k * 8 + j, none⟩ = some u ∧ Rel S y u := fun j y hj =>
          ⟨us (k * 8 + j), by rw [cell?_congr (hbw.block c (by omega)), Nat.add_assoc]; exact hc1 k _ j y hx hj, hc2 k _ j y hx hj⟩
        obtain ⟨u0, f0, r0⟩ := hcell 0 _ rfl
        obtain ⟨u1, f1, r1⟩ := hcell 1 _ rfl
        obtain ⟨u2, f2, r2⟩ := hcell 2 _ rfl
        obtain ⟨u3, f3, r3⟩ := hcell 3 _ rfl
        obtain ⟨u4, f4, r4⟩ := hcell 4 _ rfl
        obtain ⟨u5, f5, r5⟩ := hcell 5 _ rfl
        obtain ⟨u6, f6, r6⟩ := hcell 6 _ rfl
        obtain ⟨u7, f7, r7⟩ := hcell 7 _ rfl
        rw [Nat.add_zero] at f0
        obtain ⟨bs, rfl, rfl⟩ := rel_str_inv r0
        obtain rfl := rel_bool_inv r1
        obtain rfl := rel_int_inv r2
        obtain ⟨ts, rfl, rfl⟩ := rel_str_inv r3
        obtain ⟨a4, n4, c4, rfl⟩ : ∃ a n c, u4 = .slice a n c := by cases r4; exact ⟨_, _, _, rfl⟩
        obtain rfl := rel_int_inv r5
        obtain rfl := rel_int_inv r6
        obtain ⟨a7, n7, c7, rfl⟩ : ∃ a n c, u7 = .slice a n c := by cases r7; exact ⟨_, _, _, rfl⟩
        have hex : Rel S (.agg [.int .i64 e0, .str ts.data.toList, .vs e2, .int .i64 e3, .int .i64 e4, .vs e5]) (.agg #[.int .i64 e0, .string ts, .slice a4 n4 c4, .int .i64 e3, .int .i64 e4, .slice a7 n7 c7]) := by
          refine .agg _ _ rfl fun j x u hx hu => ?_
          match j with
          | 0 => simp at hx hu; subst hx; subst hu; exact .int _ _
          | 1 => simp at hx hu; subst hx; subst hu; exact .str _
          | 2 => simp at hx hu; subst hx; subst hu; exact r4
          | 3 => simp at hx hu; subst hx; subst hu; exact .int _ _
          | 4 => simp at hx hu; subst hx; subst hu; exact .int _ _
          | 5 => simp at hx hu; subst hx; subst hu; exact r7
          | j + 6 => simp at hx
        have hexc : (V.agg [.int .i64 e0, .str ts.data.toList, .vs e2, .int .i64 e3, .int .i64 e4, .vs e5]).clean = true := by
          simp only [V.clean, cleanL, Bool.and_eq_true] at hclx ⊢
          simp_all
        clear hcell r0 r1
        have name_arm : ∀ {b : Bool}, call 17 [.str bs.data.toList] [] = some (.ret (.bool b), []) → ∀ o, Calls Tryd.prog 17 #[.string bs] (wr.alloc o) fun e w1 => e = .returned (.bool b) ∧ Grew (wr.alloc o) w1 := fun hq o =>
          (call_only hcall hq hS (hgr0 _ (hbw.alloc hBw _)) (relA1 (only_rel (hgr0 _ (hbw.alloc hBw _)) (.str bs) rfl))).2.mono fun e w1 ⟨u, he, hg1, S1, hu⟩ => ⟨by rw [he, rel_bool_inv hu], hg1⟩
        have right_arm : ∀ {b : Bool} {w1 : World}, Below B S.w w1 → call 19 [.agg [.int .i64 e0, .str ts.data.toList, .vs e2, .int .i64 e3, .int .i64 e4, .vs e5]] [] = some (.ret (.bool b), []) → Calls Tryd.prog 19 #[.agg #[.int .i64 e0, .string ts, .slice a4 n4 c4, .int .i64 e3, .int .i64 e4, .slice a7 n7 c7]] w1 fun e w2 => e = .returned (.bool b) ∧ Grew w1 w2 := fun hb1 hq =>
          (call_only hcall hq hS (hgr0 _ hb1) (relA1 (only_rel (hgr0 _ hb1) hex hexc))).2.mono fun e w1 ⟨u, he, hg1, S1, hu⟩ => ⟨by rw [he, rel_bool_inv hu], hg1⟩
        have text_arm : ∀ {t : List UInt8} {w1 : World}, Below B S.w w1 → call 26 [.agg [.int .i64 e0, .str ts.data.toList, .vs e2, .int .i64 e3, .int .i64 e4, .vs e5]] [] = some (.ret (.str t), []) → Calls Tryd.prog 26 #[.agg #[.int .i64 e0, .string ts, .slice a4 n4 c4, .int .i64 e3, .int .i64 e4, .slice a7 n7 c7]] w1 fun e w2 => (∃ us : ByteArray, t = us.data.toList ∧ e = .returned (.string us)) ∧ Grew w1 w2 := fun hb1 hq =>
          (call_only hcall hq hS (hgr0 _ hb1) (relA1 (only_rel (hgr0 _ hb1) hex hexc))).2.mono fun e w1 ⟨u, he, hg1, S1, hu⟩ => by
            obtain ⟨us, h1, h2⟩ := rel_str_inv hu
            exact ⟨⟨us, h2, by rw [he, h1]⟩, hg1⟩
        rcases hcase with ⟨hq1, rfl, rfl⟩ | ⟨hq1, hq2, rfl, rfl⟩ | ⟨hq1, hq2, t, hq3, hle, hmk⟩
        · -- no name
          go_wp2_with (go_at_call 17; refine (name_arm hq1 _).mono ?_)
          rintro e w1 rfl hg1
          have hb1 := below_then (hbw.alloc hBw _) (by simp; omega) hg1
          go_wp2
          go_ret2
          exact ⟨_, rfl, hb1, fun S' _ => relT2 (rel_str_mk S' []) (.int _ _)⟩
        · go_wp2_with (go_at_call 17; refine (name_arm hq1 _).mono ?_)
          rintro e w1 rfl hg1
          have hb1 := below_then (hbw.alloc hBw _) (by simp; omega) hg1
          have hX := hg1.old wr.heap.size (by simp)
          rw [heap_alloc_new] at hX
          have x0 := Lib.cell_of_heap hX 0
          have x1 := Lib.cell_of_heap hX 1
          have x2 := Lib.cell_of_heap hX 2
          have x3 := Lib.cell_of_heap hX 3
          have x4 := Lib.cell_of_heap hX 4
          have x5 := Lib.cell_of_heap hX 5
          have x6 := Lib.cell_of_heap hX 6
          have x7 := Lib.cell_of_heap hX 7
          simp at x0 x1 x2 x3 x4 x5 x6 x7
          go_wp2_with (go_at_call 19; refine (right_arm hb1 hq2).mono ?_)
          rintro e w2 ⟨rfl, hg2⟩
          have hb2 := below_then hb1 (hB0 _ hb1) hg2
          go_wp2
          go_ret2
          exact ⟨_, rfl, hb2, fun S' _ => relT2 (rel_str_mk S' []) (.int _ _)⟩
        · go_wp2_with (go_at_call 17; refine (name_arm hq1 _).mono ?_)
          rintro e w1 rfl hg1
          have hb1 := below_then (hbw.alloc hBw _) (by simp; omega) hg1
          have hX := hg1.old wr.heap.size (by simp)
          rw [heap_alloc_new] at hX
          have x0 := Lib.cell_of_heap hX 0
          have x1 := Lib.cell_of_heap hX 1
          have x2 := Lib.cell_of_heap hX 2
          have x3 := Lib.cell_of_heap hX 3
          have x4 := Lib.cell_of_heap hX 4
          have x5 := Lib.cell_of_heap hX 5
          have x6 := Lib.cell_of_heap hX 6
          have x7 := Lib.cell_of_heap hX 7
          simp at x0 x1 x2 x3 x4 x5 x6 x7
          go_wp2_with (go_at_call 19; refine (right_arm hb1 hq2).mono ?_)
          rintro e w2 ⟨rfl, hg2⟩
          have hb2 := below_then hb1 (hB0 _ hb1) hg2
          clear x0 x1 x2 x3 x4 x5 x6 x7
          have hX2 := (hg2.old wr.heap.size (Array.getElem?_eq_some_iff.1 hX).1).trans hX
          have y0 := Lib.cell_of_heap hX2 0
          have y1 := Lib.cell_of_heap hX2 1
          have y2 := Lib.cell_of_heap hX2 2
          have y3 := Lib.cell_of_heap hX2 3
          have y4 := Lib.cell_of_heap hX2 4
          have y5 := Lib.cell_of_heap hX2 5
          have y6 := Lib.cell_of_heap hX2 6
          have y7 := Lib.cell_of_heap hX2 7
          simp at y0 y1 y2 y3 y4 y5 y6 y7
          have hI2 : Lib.IsBuilderF (Tryd.lays158_ren.t 72) (Tryd.lays158_ren.t 5) B B (Lib.byteCells acc) w2 := builder_grew hg2 (builder_grew hg1 (hI.alloc _))
          have s0 : bs.data.toList.length = bs.size := by simp
          have s1 : ¬ 9223372036854775807 < bs.size + 3 := by omega
          have s2 : ¬ 9223372036854775807 < bs.size + 4 := by omega
          have after : ∀ (w3 : World) (tt : ByteArray), t = tt.data.toList → Grew w2.drew w3 → Below B S.w w3 ∧ Lib.IsBuilderF (Tryd.lays158_ren.t 72) (Tryd.lays158_ren.t 5) B B (Lib.byteCells acc) w3 ∧ w3.cell? { block := wr.heap.size, off := 0 } = some (.string bs) ∧
              ¬ 9223372036854775807 < bs.size + 3 + tt.size ∧ ¬ 9223372036854775807 < bs.size + 3 + tt.size + 1 ∧ ¬ 9223372036854775807 < bs.size + 4 + tt.size ∧ ¬ 9223372036854775807 < bs.size + 4 + tt.size + 1 ∧
              ∀ q : ByteArray, q.size ≤ 4 → (Lib.byteCells acc).length + (bs ++ q ++ tt ++ { data := #[10] }).size ≤ 140737488355328 := fun w3 tt ht hg3 => by
            subst ht
            have st : tt.data.toList.length = tt.size := by simp
            have hX3 := (hg3.old wr.heap.size (Array.getElem?_eq_some_iff.1 hX2).1).trans hX2
            have z0 := Lib.cell_of_heap hX3 0
            refine ⟨below_then hb2.drew (hB0 _ hb2.drew) hg3, builder_grew hg3 hI2, by simpa using z0, by omega, by omega, by omega, by omega, fun q hq => ?_⟩
            rw [Lib.byteCells_length, line_size]
            omega
          have relq : ∀ (w3 w4 : World) (tt q : ByteArray), t = tt.data.toList → q.data.toList = (if more = true then [32, 61, 47, 32] else [32, 61, 32]) → Below B S.w w3 →
              Lib.BuilderAtF (Tryd.lays158_ren.t 72) (Tryd.lays158_ren.t 5) B B (.pointer (some ⟨B, 0, none⟩)) (Lib.byteCells acc ++ Lib.strCells (bs ++ q ++ tt ++ { data := #[10] })) w4 → Below B w3 w4 →
              ∃ (k_1 : Nat) (acc : List UInt8), Value.int IntKind.i64 ((k : Int) + 1) = Value.int IntKind.i64 (k_1 : Int) ∧ k_1 ≤ xs.length ∧ Lib.IsBuilderF (Tryd.lays158_ren.t 72) (Tryd.lays158_ren.t 5) B B (Lib.byteCells acc) w4 ∧ Below B S.w w4 ∧
                oTellL call 17 19 26 S.H (xs.drop k_1) acc = some (.ret v, H') ∧ acc.length ≤ 100000000000000 := fun w3 w4 tt q ht hq hb3 h4 b4 => by
            subst ht
            have hql : q.data.toList.length ≤ 4 := by rw [hq]; split <;> simp
            refine ⟨k + 1, acc ++ (bs.data.toList ++ (if more = true then [32, 61, 47, 32] else [32, 61, 32]) ++ tt.data.toList ++ [10]), by simp, hlt, .inr ?_, hb3.trans b4, hmk, ?_⟩
            · rw [Lib.byteCells_append, ← hq, ← line_bytes, ← Lib.strCells_eq]
              exact h4
            · rw [← hq]
              simp only [List.length_append, List.length_cons, List.length_nil] at hle ⊢
              omega
          cases more
          · go_wp2_with (fail)
            go_region_with (first
              | (go_at_call 26; refine (text_arm ?_ hq3).mono ?_; first | exact hb2 | exact hb2.drew; rintro e w3 ⟨⟨tt, ht, rfl⟩, hg3⟩; obtain ⟨hb3, hI3, z0, s3, s4, s5, s6, s7⟩ := after w3 tt ht hg3)
              | (go_at_call 25; refine (WriteString_k B B _ _ _ hI3 ?_ ?_).mono ?_; exact s7 _ (by decide); exact hB0 _ hb3; rintro e w4 ⟨rfl, h4, b4, k4⟩))
            all_goals go_wp2
            all_goals go_roundw
            all_goals first
              | exact relq w3 w4 tt _ ht rfl hb3 h4 b4
              | (simp [intOf]; omega)
          · go_wp2_with (fail)
            go_region_with (first
              | (go_at_call 26; refine (text_arm ?_ hq3).mono ?_; first | exact hb2 | exact hb2.drew; rintro e w3 ⟨⟨tt, ht, rfl⟩, hg3⟩; obtain ⟨hb3, hI3, z0, s3, s4, s5, s6, s7⟩ := after w3 tt ht hg3)
              | (go_at_call 25; refine (WriteString_k B B _ _ _ hI3 ?_ ?_).mono ?_; exact s7 _ (by decide); exact hB0 _ hb3; rintro e w4 ⟨rfl, h4, b4, k4⟩))
            all_goals go_wp2
            all_goals go_roundw
            all_goals first
              | exact relq w3 w4 tt _ ht rfl hb3 h4 b4
              | (simp [intOf]; omega)
    · obtain rfl : k = xs.length := by omega
      rw [List.drop_of_length_le (Nat.le_refl _)] at hmk
      simp only [oTellL, Option.some.injEq, Prod.mk.injEq, Out.ret.injEq] at hmk
      obtain ⟨rfl, rfl⟩ := hmk
      go_wp2_with (go_at_call 27; refine (Tryd.Builder_String_any_k B B acc _ hI hBw).mono ?_)
      rintro e w1 ⟨rfl, h1, b1, k1⟩
      go_wp2
      go_ret2
      exact ⟨_, rfl, hbw.trans b1, fun S' _ => relT2 (rel_str_mk S' acc) (.int _ _)⟩
end Go.Proofs.YthcjjicplodhjaaDoor
end

section
/- What the evaluator says of the program is so. -/
namespace Go.Proofs.YthcjjicplodhjaaDoor
open Go Go.Ev Go.RowKit
set_option linter.unusedVariables false

theorem tell_mod {call : CallO} (hcall : CallOK tabs Tryd.prog call) : Mod tabs Tryd.prog 13 (oTell 17 19 26 call) := by
  intro args H r H' hm S uargs hH hS hA
  subst hH
  refine ⟨enters Tryd.func13 (by kernel_rfl) (by kernel_rfl) _ _, ?_⟩
  unfold oTell at hm
  split at hm
  · rename_i xs
    split at hm
    · rename_i hlen
      obtain ⟨v, rfl⟩ := oTellL_ret hm
      obtain ⟨u, rfl, hu⟩ := hA.one
      cases hu with
      | vs _ a n cap c off sz us hn hcap hcl ha hsz h1 h2 =>
        refine (tell_walk hcall hS hn hcap (by omega) hcl ha hsz h1 h2 hm).mono fun e w' he => ?_
        obtain ⟨rfl, u, rfl, hb, hr⟩ := he
        have hg := below_grew hb
        exact ⟨S.at w', ⟨rfl, rfl, rfl, at_ext hS hg, at_sim hS hg, Bd.refl _ _⟩, hr _ (at_ext hS hg)⟩
    · cases hm
  · cases hm
theorem orcOK : ∀ f g, hint.orc f = some g → ∀ call, CallOK tabs Tryd.prog call → Mod tabs Tryd.prog f (g call) := by
  intro f g h call hcall
  have hm := orc_of orcT f g h
  simp only [orcT, List.mem_cons, List.not_mem_nil, or_false, Prod.mk.injEq] at hm
  obtain ⟨rfl, rfl⟩ := hm
  exact tell_mod hcall
theorem E_ok : CallOK tabs Tryd.prog E := EV_ok D_ok mixed namesOK intrOK orcOK
end Go.Proofs.YthcjjicplodhjaaDoor
end

section
/- A world in which the tables lie; what a row's list says of them. -/
namespace Go.Proofs.YthcjjicplodhjaaDoor
open Go Go.Ev Go.RowKit
set_option linter.unusedVariables false

noncomputable def laidWorld (os : Os) : World :=
  let N := (World.settled Tryd.prog os).heap.size
  let w0 := World.holding Tryd.prog os ⟨#[.cells Lib.caseCells5 (Tryd.lays158_ren.t 208)], #[], []⟩
  let put (h : Array Obj) (g : Nat) (cs : Array Value) : Array Obj := h.modify g fun
    | .cells _ t frozen => .cells cs t frozen
    | o => o
  let h1 := put w0.heap 1 (Lib.pow10Tab.map fun z => Value.int .u64 z).toArray
  let h2 := put h1 3 (Lib.firstTab.map fun z => Value.int .u8 z).toArray
  let h3 := put h2 4 ((List.range 16).flatMap fun i => [Value.int .u8 (Lib.accLo i), Value.int .u8 (Lib.accHi i)]).toArray
  let h4 := put h3 5 (Lib.deBruijn32tab.map fun (z : Nat) => Value.int .u8 (z : Int)).toArray
  let h5 := put h4 6 (tzTab.map fun z => Value.int .u8 z).toArray
  let h6 := put h5 2 #[.slice (some ⟨N, 0, none⟩) 336 336]
  { w0 with heap := h6 }
def laidL : List (String × DataW Unit) := [("math/bits.deBruijn32tab", Rows.laid_math_bits_deBruijn32tab), ("math/bits.deBruijn64tab", Rows.laid_math_bits_deBruijn64tab), ("internal/strconv.uint64pow10", Rows.laid_internal_strconv_uint64pow10), ("unicode/utf8.acceptRanges", Rows.laid_unicode_utf8_acceptRanges)]
theorem laid_met (os : Os) (args : Array Value) : laidMet Tryd.prog (laidL ++ [("unicode.CaseRanges", Rows.laid_unicode_CaseRanges)] ++ [("unicode/utf8.first", Rows.laid_unicode_utf8_first)]) ((laidWorld os).forCall (fun _ _ => 0) ⟨#[], args, []⟩).memory :=
  laidMet_swap (laidMet_with_case (ρ := Tryd.lays158_ren) { Tryd.lays158 with } Tryd.lays158.t206 ⟨by kernel_rfl, by kernel_rfl, by kernel_rfl, by kernel_rfl, by kernel_rfl, by kernel_rfl⟩
    (l := laidL ++ [("unicode/utf8.first", Rows.laid_unicode_utf8_first)])
    10 (by kernel_rfl) (by kernel_rfl) (by kernel_rfl) ((World.settled Tryd.prog default).heap.size) (Tryd.lays158_ren.t 208) (of_decide_eq_true (by kernel_rfl)) (by kernel_rfl) (by kernel_rfl) (by kernel_rfl))
theorem pow_name : Tryd.prog.globalNamed "internal/strconv.uint64pow10" = some 1 := by kernel_rfl
theorem tz_name : Tryd.prog.globalNamed "math/bits.deBruijn64tab" = some 6 := by kernel_rfl
/-- What a row's list says. -/
theorem laid_open {l : List (String × DataW Unit)} (hl : (l.filter fun x => x.2.handleName?.isSome) = []) {W : World} (h : laidMetH Tryd.prog l W) : laidMet Tryd.prog l W := by
  unfold laidMetH at h
  rw [hl] at h
  exact h
theorem laid_tabs {l : List (String × DataW Unit)} {W : World} (h1 : ("internal/strconv.uint64pow10", Lib.tabData .u64 Lib.pow10Tab) ∈ l) (h2 : ("math/bits.deBruijn64tab", Lib.tabData .u8 tzTab) ∈ l) (h : laidMet Tryd.prog l W) : Laid tabs W := by
  have t1 := tabIs_mem pow_name (t := 120) (by kernel_rfl) Tryd.underlying120 Tryd.underlying106 (by kernel_rfl) (by kernel_rfl) h h1
  have t2 := tabIs_mem tz_name (t := 138) (by kernel_rfl) Tryd.underlying138 Tryd.underlying5 (by kernel_rfl) (by kernel_rfl) h h2
  intro c us hc
  rcases hc with ⟨rfl, rfl⟩ | ⟨rfl, rfl⟩
  · exact tabIs_block pow_name t1
  · exact tabIs_block tz_name t2
theorem laid_mem1 {l : List (String × DataW Unit)} : ("internal/strconv.uint64pow10", Lib.tabData .u64 Lib.pow10Tab) ∈ laidL ++ l := by
  rw [show (Lib.tabData .u64 Lib.pow10Tab : DataW Unit) = Rows.laid_internal_strconv_uint64pow10 by kernel_rfl]
  simp [laidL]
theorem laid_mem2 {l : List (String × DataW Unit)} : ("math/bits.deBruijn64tab", Lib.tabData .u8 tzTab) ∈ laidL ++ l := by
  rw [show (Lib.tabData .u8 tzTab : DataW Unit) = Rows.laid_math_bits_deBruijn64tab by kernel_rfl]
  simp [laidL]
end Go.Proofs.YthcjjicplodhjaaDoor
end

