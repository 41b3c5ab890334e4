/- Wc: a part of the proof that each law of this seat answers true at every input. No condition. -/
import Derived.Test.YtjnkigaiogjfcaaDoorRows
import Derived.Shelf.Spec.SlicesInsert
import Derived.Shelf.RegionOpenPlain
set_option linter.unusedVariables false
set_option linter.unusedSimpArgs false
set_option maxRecDepth 2000
section
/- One more ahead of a slice that has room: the walk of slices.Insert. -/
namespace Go.Proofs.YtjnkigaiogjfcaaDoor
open Go Go.RowKit Go.Lib Go.Shelf
set_option linter.unusedVariables false
set_option linter.unusedSimpArgs false

theorem run_overlaps_owned {P : Program} (w : World) (tS tR e : TypeId) (ht : P.underlying tS = some (.slice e)) (size : Nat) (hz : ∀ w, (Go.sizeOf e).run P w = .ok size w)
    (a b : Addr) (la ca lb cb : Nat) (hne : a.block ≠ b.block) (tA tB : TypeId) (kA kB : Nat)
    (hsa : w.shape? a.block = some (tA, kA)) (hsb : w.shape? b.block = some (tB, kB)) (hkA : kA ≠ 0)
    (hfb : w.frozen? b = false) (hfe : w.frozen? { block := b.block, off := kB } = false) :
    (Extern.SlicesOverlaps.overlaps #[tS, tS] #[tR] #[.slice (some a) la ca, .slice (some b) lb cb]).run P w = .ok (.bool false) w := by
  have hnb : (a.block != b.block) = true := by simpa using hne
  have hnb' : (a.block == b.block) = false := by simpa using hne
  change Sem.run P (α := Value) (do
    let some t := (#[tS, tS] : Array TypeId)[0]? | stuck "slices.overlaps: no parameter types"
    let .slice elem ← underlying t | stuck "slices.overlaps: slice type expected"
    let size ← sizeOf elem
    match (some a : Option Addr), (some b : Option Addr) with
    | some a, some b =>
      if la = 0 ∨ lb = 0 ∨ size = 0 then pure (Value.bool false)
      else if a.block != b.block && (← frozen a) && (← frozen b) then unsupported .addressObserved
      else do
        if a.block != b.block then do
          noView a; noView b
          if ← mayBeOne a b then return Value.bool ((← choose (.extern "sameAddr.stringBytes" 2)) == 1)
        pure (Value.bool (a.block == b.block && a.off < b.off + lb * size && b.off < a.off + la * size))
    | _, _ => pure (Value.bool false)) w = _
  by_cases h0 : la = 0 ∨ lb = 0 ∨ size = 0
  · simp [run_underlying ht, hz, h0]
  · cases kA with
    | zero => exact absurd rfl hkA
    | succ kA =>
      cases h1 : w.frozen? a <;> cases h2 : w.frozen? { block := a.block, off := kA + 1 } <;>
        simp [run_underlying ht, hz, h0, hnb, hnb', frozen, noView, viewAt, mayBeOne, stringish, shape, Sem.run, hsa, hsb, hfb, hfe, h1, h2]
theorem run_copy_k {P : Program} (w : World) (dT sT ty elem : TypeId) (size b o dLen dCap : Nat) (a : Addr) (sLen sCap : Nat) (cs : List Value)
    (hu : P.underlying dT = some (.slice elem)) (hs : (P.info? elem).map (·.size) = some size) (hn : cs.length = Nat.min sLen dLen * size)
    (hsrc : ∀ j v, cs[j]? = some v → w.cell? (a.add j) = some v) (hc : ∀ j, j < cs.length → (w.cell? ⟨b, o + j, none⟩).isSome = true) (hf : ∀ j, j < cs.length → w.frozen? ⟨b, o + j, none⟩ = false) (h1 : ∀ v ∈ cs, v.oneCell' = true) :
    (Builtin.copy_ #[dT, sT] ty #[.slice (some ⟨b, o, none⟩) dLen dCap, .slice (some a) sLen sCap]).run P w = .ok (goInt (Nat.min sLen dLen)) (w.setCells b o cs) := by
  have hl := run_loadCells_list (P := P) w a cs hsrc
  have hst := run_storeCells_cells (P := P) b o cs 0 w (by simpa using hc) (by simpa using hf) h1
  cases hq : P.info? elem with
  | none => simp [hq] at hs
  | some i =>
    have hi : i.size = size := by simpa [hq] using hs
    simp [Builtin.copy_, run_underlying hu, Builtin.lenOf, Builtin.firstCells, sizeOf, typeInfo, hq, hi, ← hn, hl, hst]

theorem info_re : (Tryd.prog.info? 31).map (·.size) = some 6 := by kernel_rfl
theorem und_res : Tryd.prog.underlying 22 = some (.slice 31) := by kernel_rfl
theorem size_re : ∀ w, (Go.sizeOf 31).run Tryd.prog w = .ok 6 w := fun w => by
  cases h : Tryd.prog.info? 31 with
  | none => have := info_re; rw [h] at this; simp at this
  | some i =>
    have h2 : i.size = 6 := by have := info_re; rw [h] at this; simpa using this
    simp [Go.sizeOf, typeInfo, h, h2]

set_option maxHeartbeats 4000000 in
set_option maxRecDepth 100000 in
/-- There is room, and something is there. -/
theorem insert_shift (g n cap c off vc : Nat) (cur : Array Value) (e : TypeId) (w : World) (hg : w.heap[g]? = some (.cells cur e (0, 0))) (hsz : cur.size = cap * 6) (h0 : 0 < n) (hn : n + 1 ≤ cap) (hcap : n ≤ 4611686018427387904)
    (xs old : List Value) (hx : ∀ j v, xs[j]? = some v → w.cell? ⟨c, off + j, none⟩ = some v) (hxl : xs.length = 6) (h1x : ∀ v ∈ xs, v.oneCell' = true) (hne : c ≠ g)
    (hold : cur.toList.take (n * 6) = old) (h1o : ∀ v ∈ old, v.oneCell' = true) (tA : TypeId) (kA : Nat) (hsa : w.shape? c = some (tA, kA)) (hkA : kA ≠ 0) :
    Calls Tryd.prog 40 #[.slice (some ⟨g, 0, none⟩) n cap, .int .i64 0, .slice (some ⟨c, off, none⟩) 1 vc] w fun e w' =>
      e = .returned (.slice (some ⟨g, 0, none⟩) (n + 1) cap) ∧ w' = (w.drew.setCells g 6 old).setCells g 0 xs := by
  have hol : old.length = n * 6 := by rw [← hold, List.length_take, Array.length_toList]; omega
  have hsp : ∀ j, j < cap * 6 → (w.cell? ⟨g, j, none⟩).isSome = true := fun j hj => by simp [World.cell?, hg]; omega
  have hfz : ∀ j, w.frozen? ⟨g, j, none⟩ = false := fun j => by simp [World.frozen?, hg]
  have hsb : w.shape? g = some (e, cap * 6) := by simp [World.shape?, hg, hsz]
  have hoc : ∀ j v, old[j]? = some v → w.cell? ⟨g, j, none⟩ = some v := fun j v hj => by
    have hlt := (List.getElem?_eq_some_iff.1 hj).1
    rw [← hold, List.getElem?_take_of_lt (by omega)] at hj
    simp only [World.cell?, hg]
    simpa using hj
  have hov : ∀ lb cb, (callFunc 59 #[.slice (some ⟨c, off, none⟩) 1 vc, .slice (some ⟨g, 6, none⟩) lb cb]).run Tryd.prog w = .ok (.value (.bool false)) w := fun lb cb => by
    rw [run_callFunc_extern Tryd.func59 (by kernel_rfl) (by kernel_rfl) (by kernel_rfl) (e := Extern.SlicesOverlaps.overlaps #[22, 22] #[4]) (by kernel_rfl),
      run_overlaps_owned w 22 4 31 und_res 6 size_re ⟨c, off, none⟩ ⟨g, 6, none⟩ 1 vc lb cb hne tA e kA (cap * 6) hsa hsb hkA (hfz 6) (hfz _)]
    rfl
  have hcp1 : ∀ ty dc sc, (Builtin.copy_ #[22, 22] ty #[.slice (some ⟨g, 6, none⟩) n dc, .slice (some ⟨g, 0, none⟩) (n + 1) sc]).run Tryd.prog w.drew = .ok (goInt n) (w.drew.setCells g 6 old) := fun ty dc sc => by
    have := run_copy_k (P := Tryd.prog) w.drew 22 22 ty 31 6 g 6 n dc ⟨g, 0, none⟩ (n + 1) sc old und_res info_re (by rw [hol]; simp [Nat.min_def])
      (fun j v hj => by rw [Addr.add_lit, Nat.zero_add]; exact hoc j v hj) (fun j hj => hsp _ (by omega)) (fun j hj => hfz _) h1o
    rwa [show Nat.min (n + 1) n = n by simp [Nat.min_def]] at this
  obtain ⟨W1, hW1⟩ : ∃ W1, W1 = w.drew.setCells g 6 old := ⟨_, rfl⟩
  have hcp2 : ∀ (W : World), (∀ x, W.cell? x = W1.cell? x) → (∀ x, W.frozen? x = W1.frozen? x) → ∀ ty dc, (Builtin.copy_ #[22, 22] ty #[.slice (some ⟨g, 0, none⟩) (n + 1) dc, .slice (some ⟨c, off, none⟩) 1 vc]).run Tryd.prog W = .ok (goInt 1) (W.setCells g 0 xs) := fun W hWc hWf ty dc => by
    have := run_copy_k (P := Tryd.prog) W 22 22 ty 31 6 g 0 (n + 1) dc ⟨c, off, none⟩ 1 vc xs und_res info_re (by rw [hxl]; simp [Nat.min_def])
      (fun j v hj => by rw [Addr.add_lit, hWc, hW1, World.cell?_setCells_out g _ _ _ _ (fun h _ => absurd h hne)]; exact hx j v hj)
      (fun j hj => by rw [hWc, hW1]; exact isSome_setCells g old 6 w.drew (fun k hk => hsp (6 + k) (by rw [hol] at hk; omega)) (0 + j) (hsp (0 + j) (by omega))) (fun j hj => by rw [hWf, hW1, World.frozen?_setCells]; exact hfz _) h1x
    rwa [show Nat.min 1 (n + 1) = 1 by simp [Nat.min_def]] at this
  rw [← hW1] at hcp1
  have hn0 : ¬ ((0 : Int) = (n : Int)) := by omega
  have hc1 : ¬ ((n : Int) + 1 > (cap : Int)) := by omega
  have mixed : Tryd.prog.follows Departure.mixedOrders = true := by kernel_rfl
  have hw1 : IntKind.i64.wrap 1 = 1 := by decide
  have hw2 : (1 : Int).toNat = 1 := rfl
  have hb3 : (1 : Int) ≤ (n : Int) + 1 := by omega
  have hb0 : (0 : Int) ≤ (n : Int) + 1 := by omega
  have hb4 : ¬ (cap = 1) := by omega
  go_enter Tryd.func40, Tryd.ntmps40
  go_wp2_with (simp only [hov])
  go_region_law_o (refine step_copy_runI rfl _ _ 22 22 rfl _ _ (by simp [Act.eval, Act.put]) (by simp [Act.eval, Act.put]) (hcp1 _ _ _) ?_)
  go_wp2_with (at_builtin; refine wpList_copy_runI _ rfl _ _ 22 22 rfl _ _ rfl rfl (hcp2 _ (fun _ => rfl) (fun _ => rfl) _ _) ?_)
  go_ret
  first | exact ⟨rfl, rfl⟩ | exact ⟨rfl, by rw [hW1]⟩

set_option maxHeartbeats 4000000 in
set_option maxRecDepth 100000 in
/-- Nothing is there yet, but there is room. -/
theorem insert_first (g cap c off vc : Nat) (cur : Array Value) (e : TypeId) (w : World) (hg : w.heap[g]? = some (.cells cur e (0, 0))) (hsz : cur.size = cap * 6) (hn : 1 ≤ cap) (hcap : 0 ≤ 4611686018427387904)
    (xs : List Value) (hx : ∀ j v, xs[j]? = some v → w.cell? ⟨c, off + j, none⟩ = some v) (hxl : xs.length = 6) (h1x : ∀ v ∈ xs, v.oneCell' = true) (hne : c ≠ g) :
    Calls Tryd.prog 40 #[.slice (some ⟨g, 0, none⟩) 0 cap, .int .i64 0, .slice (some ⟨c, off, none⟩) 1 vc] w fun e w' =>
      e = .returned (.slice (some ⟨g, 0, none⟩) 1 cap) ∧ w' = w.setCells g 0 xs := by
  obtain ⟨i0, hi0, hs0⟩ : ∃ i, Tryd.prog.info? 31 = some i ∧ i.size = 6 := by
    have := info_re
    cases h : Tryd.prog.info? 31 with
    | none => rw [h] at this; simp at this
    | some i => rw [h] at this; exact ⟨i, rfl, by simpa using this⟩
  have hsp : ∀ j, j < cap * 6 → (w.cell? ⟨g, j, none⟩).isSome = true := fun j hj => by simp [World.cell?, hg]; omega
  have hfz : ∀ j, w.frozen? ⟨g, j, none⟩ = false := fun j => by simp [World.frozen?, hg]
  have hsrc : Src Tryd.prog i0.size 22 (.slice (some ⟨c, off, none⟩) 1 vc) 1 xs w := Src.ofSlice w und_res ⟨c, off, none⟩ 1 vc xs (by rw [hs0]; omega) (fun j u hj => by rw [Addr.add_lit]; exact hx j u hj) h1x
  clear hsz hcap hg
  go_enter Tryd.func40, Tryd.ntmps40
  go_wp2_with (at_builtin; refine wpList_append_room_src _ rfl _ _ 22 22 rfl 31 i0 und_res hi0 g 0 0 cap rfl _ rfl 1 xs hsrc hn (fun j hj => by rw [hs0]; exact hsp _ (by omega)) (fun j hj => hfz _) ?_)
  go_ret
  exact ⟨rfl, rfl⟩
end Go.Proofs.YtjnkigaiogjfcaaDoor
end

