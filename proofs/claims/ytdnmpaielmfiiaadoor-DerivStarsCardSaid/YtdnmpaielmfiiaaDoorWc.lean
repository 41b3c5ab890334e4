/- Wc: a part of the proof that each law of this seat answers true at every input. No condition. -/
import Derived.Test.YtdnmpaielmfiiaaDoorRows
import Derived.Shelf.Spec.SlicesInsert
import Derived.Shelf.RegionOpenPlain
import Derived.Lib.AppendZerosOnto
import Derived.Laws.NewBlocks
import Derived.Shelf.Spec.SlicesInsertGrow
set_option linter.unusedVariables false
set_option linter.unusedSimpArgs false
set_option maxRecDepth 2000
section
namespace Go.Proofs.YtdnmpaielmfiiaaDoor
open Go Go.RowKit Go.Lib Go.Shelf
theorem Qnr {P : Program} (w : World) (tS tR e : TypeId) (ht : P.underlying tS = some (.slice e)) (size : Nat) (hz : ∀ w,(Go.sizeOf e).run P w = .ok size w)
    (a b : Addr) (la ca lb cb : Nat) (hne : a.block ≠ b.block) (tA tB : TypeId) (kA kB : Nat)
    (hsa : w.shape? a.block = some (tA,kA)) (hsb : w.shape? b.block = some (tB,kB)) (hkA : kA ≠ 0)
    (hfb : w.frozen? b = false) (hfe : w.frozen? { block := b.block,off := kB } = false) :
    (Extern.SlicesOverlaps.overlaps #[tS,tS] #[tR] #[.slice (some a) la ca,.slice (some b) lb cb]).run P w = .ok (.bool false) w := by
  have hnb : (a.block != b.block) = true := by simpa using hne
  have hnb' : (a.block == b.block) = false := by simpa using hne
  change Sem.run P (α := Value) (do
    let some t := (#[tS,tS] : Array TypeId)[0]? | stuck "slices.overlaps: no parameter types"
    let .slice elem ← underlying t | stuck "slices.overlaps: slice type expected"
    let size ← sizeOf elem
    match (some a : Option Addr),(some b : Option Addr) with
    | some a,some b =>
      if la = 0 ∨ lb = 0 ∨ size = 0 then pure (Value.bool false)
      else if a.block != b.block && (← frozen a) && (← frozen b) then unsupported .addressObserved
      else do
        if a.block != b.block then do
          noView a; noView b
          if ← mayBeOne a b then return Value.bool ((← choose (.extern "sameAddr.stringBytes" 2)) == 1)
        pure (Value.bool (a.block == b.block && a.off < b.off + lb * size && b.off < a.off + la * size))
    | _,_ => pure (Value.bool false)) w = _
  by_cases h0 : la = 0 ∨ lb = 0 ∨ size = 0
  · simp [run_underlying ht,hz,h0]
  · cases kA with
    | zero => exact absurd rfl hkA
    | succ kA =>
      cases h1 : w.frozen? a <;> cases h2 : w.frozen? { block := a.block,off := kA + 1 } <;>
        simp [run_underlying ht,hz,h0,hnb,hnb',frozen,noView,viewAt,mayBeOne,stringish,shape,Sem.run,hsa,hsb,hfb,hfe,h1,h2]
theorem FF {P : Program} (w : World) (dT sT ty elem : TypeId) (size b o dLen dCap : Nat) (a : Addr) (sLen sCap : Nat) (cs : List Value)
    (hu : P.underlying dT = some (.slice elem)) (hs : (P.info? elem).map (·.size) = some size) (hn : cs.length = Nat.min sLen dLen * size)
    (hsrc : ∀ j v,cs[j]? = some v → w.cell? (a.add j) = some v) (hc : ∀ j,j < cs.length → (w.cell? ⟨b,o + j,none⟩).isSome = true) (hf : ∀ j,j < cs.length → w.frozen? ⟨b,o + j,none⟩ = false) (h1 : ∀ v ∈ cs,v.oneCell' = true) :
    (Builtin.copy_ #[dT,sT] ty #[.slice (some ⟨b,o,none⟩) dLen dCap,.slice (some a) sLen sCap]).run P w = .ok (goInt (Nat.min sLen dLen)) (w.setCells b o cs) := by
  have hl := run_loadCells_list (P := P) w a cs hsrc
  have hst := run_storeCells_cells (P := P) b o cs 0 w (by simpa using hc) (by simpa using hf) h1
  cases hq : P.info? elem with
  | none => simp [hq] at hs
  | some i =>
    have hi : i.size = size := by simpa [hq] using hs
    simp [Builtin.copy_,run_underlying hu,Builtin.lenOf,Builtin.firstCells,sizeOf,typeInfo,hq,hi,← hn,hl,hst]
theorem UW : (Tryd.prog.info? 27).map (·.size) = some 6 := by kernel_rfl
theorem Jc : Tryd.prog.underlying 25 = some (.slice 27) := by kernel_rfl
theorem Qox : ∀ w,(Go.sizeOf 27).run Tryd.prog w = .ok 6 w := fun w => by
  cases h : Tryd.prog.info? 27 with
  | none => have := UW; rw [h] at this; simp at this
  | some i =>
    have h2 : i.size = 6 := by have := UW; rw [h] at this; simpa using this
    simp [Go.sizeOf,typeInfo,h,h2]
set_option maxHeartbeats 4000000 in
set_option maxRecDepth 100000 in
theorem Qm0 (g n cap c off vc : Nat) (cur : Array Value) (e : TypeId) (w : World) (hg : w.heap[g]? = some (.cells cur e (0,0))) (hsz : cur.size = cap * 6) (h0 : 0 < n) (hn : n + 1 ≤ cap) (hcap : n ≤ 4611686018427387904)
    (xs old : List Value) (hx : ∀ j v,xs[j]? = some v → w.cell? ⟨c,off + j,none⟩ = some v) (hxl : xs.length = 6) (h1x : ∀ v ∈ xs,v.oneCell' = true) (hne : c ≠ g)
    (hold : cur.toList.take (n * 6) = old) (h1o : ∀ v ∈ old,v.oneCell' = true) (tA : TypeId) (kA : Nat) (hsa : w.shape? c = some (tA,kA)) (hkA : kA ≠ 0) :
    Calls Tryd.prog 45 #[.slice (some ⟨g,0,none⟩) n cap,.int .i64 0,.slice (some ⟨c,off,none⟩) 1 vc] w fun e w' =>
      e = .returned (.slice (some ⟨g,0,none⟩) (n + 1) cap) ∧ w' = (w.drew.setCells g 6 old).setCells g 0 xs := by
  have hol : old.length = n * 6 := by rw [← hold,List.length_take,Array.length_toList]; omega
  have hsp : ∀ j,j < cap * 6 → (w.cell? ⟨g,j,none⟩).isSome = true := fun j hj => by simp [World.cell?,hg]; omega
  have hfz : ∀ j,w.frozen? ⟨g,j,none⟩ = false := fun j => by simp [World.frozen?,hg]
  have hsb : w.shape? g = some (e,cap * 6) := by simp [World.shape?,hg,hsz]
  have hoc : ∀ j v,old[j]? = some v → w.cell? ⟨g,j,none⟩ = some v := fun j v hj => by
    have hlt := (List.getElem?_eq_some_iff.1 hj).1
    rw [← hold,List.getElem?_take_of_lt (by omega)] at hj
    simp only [World.cell?,hg]
    simpa using hj
  have hov : ∀ lb cb,(callFunc 57 #[.slice (some ⟨c,off,none⟩) 1 vc,.slice (some ⟨g,6,none⟩) lb cb]).run Tryd.prog w = .ok (.value (.bool false)) w := fun lb cb => by
    rw [run_callFunc_extern Tryd.func57 (by kernel_rfl) (by kernel_rfl) (by kernel_rfl) (e := Extern.SlicesOverlaps.overlaps #[25,25] #[4]) (by kernel_rfl),
      Qnr w 25 4 27 Jc 6 Qox ⟨c,off,none⟩ ⟨g,6,none⟩ 1 vc lb cb hne tA e kA (cap * 6) hsa hsb hkA (hfz 6) (hfz _)]
    rfl
  have hcp1 : ∀ ty dc sc,(Builtin.copy_ #[25,25] ty #[.slice (some ⟨g,6,none⟩) n dc,.slice (some ⟨g,0,none⟩) (n + 1) sc]).run Tryd.prog w.drew = .ok (goInt n) (w.drew.setCells g 6 old) := fun ty dc sc => by
    have := FF (P := Tryd.prog) w.drew 25 25 ty 27 6 g 6 n dc ⟨g,0,none⟩ (n + 1) sc old Jc UW (by rw [hol]; simp [Nat.min_def])
      (fun j v hj => by rw [Addr.add_lit,Nat.zero_add]; exact hoc j v hj) (fun j hj => hsp _ (by omega)) (fun j hj => hfz _) h1o
    rwa [show Nat.min (n + 1) n = n by simp [Nat.min_def]] at this
  obtain ⟨W1,hW1⟩ : ∃ W1,W1 = w.drew.setCells g 6 old := ⟨_,rfl⟩
  have hcp2 : ∀ (W : World),(∀ x,W.cell? x = W1.cell? x) → (∀ x,W.frozen? x = W1.frozen? x) → ∀ ty dc,(Builtin.copy_ #[25,25] ty #[.slice (some ⟨g,0,none⟩) (n + 1) dc,.slice (some ⟨c,off,none⟩) 1 vc]).run Tryd.prog W = .ok (goInt 1) (W.setCells g 0 xs) := fun W hWc hWf ty dc => by
    have := FF (P := Tryd.prog) W 25 25 ty 27 6 g 0 (n + 1) dc ⟨c,off,none⟩ 1 vc xs Jc UW (by rw [hxl]; simp [Nat.min_def])
      (fun j v hj => by rw [Addr.add_lit,hWc,hW1,World.cell?_setCells_out g _ _ _ _ (fun h _ => absurd h hne)]; exact hx j v hj)
      (fun j hj => by rw [hWc,hW1]; exact isSome_setCells g old 6 w.drew (fun k hk => hsp (6 + k) (by rw [hol] at hk; omega)) (0 + j) (hsp (0 + j) (by omega))) (fun j hj => by rw [hWf,hW1,World.frozen?_setCells]; exact hfz _) h1x
    rwa [show Nat.min 1 (n + 1) = 1 by simp [Nat.min_def]] at this
  rw [← hW1] at hcp1
  have hn0 : ¬ ((0 : Int) = (n : Int)) := by omega
  have hc1 : ¬ ((n : Int) + 1 > (cap : Int)) := by omega
  have mixed : Tryd.prog.follows Departure.mixedOrders = true := by kernel_rfl
  have hw1 : IntKind.i64.wrap 1 = 1 := by decide
  have hw2 : (1 : Int).toNat = 1 := rfl
  have hb3 : (1 : Int) ≤ (n : Int) + 1 := by omega
  have hb0 : (0 : Int) ≤ (n : Int) + 1 := by omega
  have hb4 : ¬ (cap = 1) := by omega
  go_enter Tryd.func45,Tryd.ntmps45
  go_wp2_with (simp only [hov])
  go_region_law_o (refine step_copy_runI rfl _ _ 25 25 rfl _ _ (by simp [Act.eval,Act.put]) (by simp [Act.eval,Act.put]) (hcp1 _ _ _) ?_)
  go_wp2_with (at_builtin; refine wpList_copy_runI _ rfl _ _ 25 25 rfl _ _ rfl rfl (hcp2 _ (fun _ => rfl) (fun _ => rfl) _ _) ?_)
  go_ret
  first | exact ⟨rfl,rfl⟩ | exact ⟨rfl,by rw [hW1]⟩
set_option maxHeartbeats 4000000 in
set_option maxRecDepth 100000 in
theorem QkK (g cap c off vc : Nat) (cur : Array Value) (e : TypeId) (w : World) (hg : w.heap[g]? = some (.cells cur e (0,0))) (hsz : cur.size = cap * 6) (hn : 1 ≤ cap) (hcap : 0 ≤ 4611686018427387904)
    (xs : List Value) (hx : ∀ j v,xs[j]? = some v → w.cell? ⟨c,off + j,none⟩ = some v) (hxl : xs.length = 6) (h1x : ∀ v ∈ xs,v.oneCell' = true) (hne : c ≠ g) :
    Calls Tryd.prog 45 #[.slice (some ⟨g,0,none⟩) 0 cap,.int .i64 0,.slice (some ⟨c,off,none⟩) 1 vc] w fun e w' =>
      e = .returned (.slice (some ⟨g,0,none⟩) 1 cap) ∧ w' = w.setCells g 0 xs := by
  obtain ⟨i0,hi0,hs0⟩ : ∃ i,Tryd.prog.info? 27 = some i ∧ i.size = 6 := by
    have := UW
    cases h : Tryd.prog.info? 27 with
    | none => rw [h] at this; simp at this
    | some i => rw [h] at this; exact ⟨i,rfl,by simpa using this⟩
  have hsp : ∀ j,j < cap * 6 → (w.cell? ⟨g,j,none⟩).isSome = true := fun j hj => by simp [World.cell?,hg]; omega
  have hfz : ∀ j,w.frozen? ⟨g,j,none⟩ = false := fun j => by simp [World.frozen?,hg]
  have hsrc : Src Tryd.prog i0.size 25 (.slice (some ⟨c,off,none⟩) 1 vc) 1 xs w := Src.ofSlice w Jc ⟨c,off,none⟩ 1 vc xs (by rw [hs0]; omega) (fun j u hj => by rw [Addr.add_lit]; exact hx j u hj) h1x
  clear hsz hcap hg
  go_enter Tryd.func45,Tryd.ntmps45
  go_wp2_with (at_builtin; refine wpList_append_room_src _ rfl _ _ 25 25 rfl 27 i0 Jc hi0 g 0 0 cap rfl _ rfl 1 xs hsrc hn (fun j hj => by rw [hs0]; exact hsp _ (by omega)) (fun j hj => hfz _) ?_)
  go_ret
  exact ⟨rfl,rfl⟩
theorem LS : ∃ i z,Tryd.prog.info? 27 = some i ∧ i.zero = some z ∧ i.size = 6 ∧ i.bytes = 64 ∧ z.cells.size = 6 := by
  have h1 : ((Tryd.prog.info? 27).map fun i => (i.size,i.bytes,i.zero.map fun z => z.cells.size)) = some (6,64,some 6) := by kernel_rfl
  cases h : Tryd.prog.info? 27 with
  | none => rw [h] at h1; cases h1
  | some i =>
    rw [h] at h1
    simp only [Option.map_some,Option.some.injEq,Prod.mk.injEq] at h1
    obtain ⟨a,b,c⟩ := h1
    obtain ⟨z,hz,hc⟩ := Option.map_eq_some_iff.1 c
    exact ⟨i,z,rfl,hz,a,b,hc⟩
theorem F5 (z : Value) (h : z.cells.size = 6) (k : Nat) : (Builtin.zeroCells z.cells k).size = k * 6 := by simp [Builtin.zeroCells,h]
set_option maxHeartbeats 4000000 in
set_option maxRecDepth 100000 in
theorem QhJ (g n c off vc : Nat) (cur : Array Value) (e : TypeId) (w : World) (hg : w.heap[g]? = some (.cells cur e (0,0))) (hsz : cur.size = n * 6) (h0 : 0 < n) (hbig : n ≤ 1000000000000)
    (xs old : List Value) (hx : ∀ j v,xs[j]? = some v → w.cell? ⟨c,off + j,none⟩ = some v) (hxl : xs.length = 6) (h1x : ∀ v ∈ xs,v.oneCell' = true)
    (hold : cur.toList = old) (h1o : ∀ v ∈ old,v.oneCell' = true) :
    Calls Tryd.prog 45 #[.slice (some ⟨g,0,none⟩) n n,.int .i64 0,.slice (some ⟨c,off,none⟩) 1 vc] w fun e w' =>
      ∃ G ROW,n + 1 ≤ G ∧ ROW.size = G * 6 ∧ e = .returned (.slice (some ⟨w.heap.size,0,none⟩) (n + 1) G) ∧ w' = (((w.alloc (.cells ROW 27)).drew.setCells w.heap.size 0 xs).drew).setCells w.heap.size 6 old := by
  obtain ⟨i0,z,hi0,hz0,hzs,hzb,hz6⟩ := LS
  have hol : old.length = n * 6 := by rw [← hold,Array.length_toList]; omega
  have hgw : g < w.heap.size := (Array.getElem?_eq_some_iff.1 hg).1
  have hvw : c < w.heap.size := block_lt_of_cell (hx 0 _ (List.getElem?_eq_getElem (by omega)))
  have hoc : ∀ j v,old[j]? = some v → w.cell? ⟨g,j,none⟩ = some v := fun j v hj => by
    rw [← hold] at hj
    simp only [World.cell?,hg]
    simpa using hj
  have hhold : (Builtin.firstCells i0.size 0 (.slice (some ⟨g,0,none⟩) 0 n)).run Tryd.prog w.drew = .ok ([] : List Value).toArray w.drew :=
    run_firstCells_some w.drew i0.size 0 ⟨g,0,none⟩ 0 n [] (by simp) (fun j v hj => by simp at hj)
  have t3 : Tryd.prog.underlying 3 = some (.int .i64) := by kernel_rfl
  have hrz : ∀ ty,(Builtin.append_ #[25,3] ty #[.slice (some ⟨g,0,none⟩) 0 n,.int .i64 ((n : Int) + 1)]).run Tryd.prog w =
      .ok (.slice (some ⟨w.heap.size,0,none⟩) (n + 1) (grownCap w (n + 1) n 27)) (w.drew.alloc (.cells (Builtin.zeroCells z.cells (n + 1) ++ Builtin.zeroCells z.cells (grownCap w (n + 1) n 27 - (n + 1))) 27)) := fun ty => by
    have h := Lib.run_append_grow_zeros w 25 3 ty 27 i0 z .i64 .i64 Jc t3 hi0 hz0 (some ⟨g,0,none⟩) 0 n [] hhold (n + 1) (by omega) (by omega) (by omega) (by omega) (by rw [hzb]; omega) (by rw [hzb,Nat.zero_add]; exact growslice_fits (by omega) (by omega))
    rw [Nat.zero_add] at h
    rw [show (n : Int) + 1 = ((n + 1 : Nat) : Int) by omega]
    simpa using h
  obtain ⟨G,hG⟩ : ∃ G,G = grownCap w (n + 1) n 27 := ⟨_,rfl⟩
  obtain ⟨ROW,hROW⟩ : ∃ ROW : Array Value,ROW = Builtin.zeroCells z.cells (n + 1) ++ Builtin.zeroCells z.cells (G - (n + 1)) := ⟨_,rfl⟩
  rw [← hG] at hrz
  rw [← hROW] at hrz
  have hGn : n + 1 ≤ G := by rw [hG]; exact grownCap_ge w _ _ _
  have hG63 : G ≤ 9223372036854775807 := by
    have := grownCap_le_maxLen w (n + 1) n 27 (by unfold maxLen; omega)
    rw [← hG] at this
    unfold maxLen at this
    omega
  have hRs : ROW.size = G * 6 := by
    rw [hROW,Array.size_append,F5 z hz6,F5 z hz6]; omega
  obtain ⟨W1,hW1⟩ : ∃ W1,W1 = w.drew.alloc (.cells ROW 27) := ⟨_,rfl⟩
  rw [← hW1] at hrz
  have hN : ∀ j,j < (n + 1) * 6 → (W1.cell? ⟨w.heap.size,j,none⟩).isSome = true := fun j hj => by
    rw [hW1,World.cell?_alloc_at (w := w.drew) ROW _ w.heap.size j rfl,Array.getElem?_eq_getElem (by omega)]; rfl
  have hNf : ∀ j,W1.frozen? ⟨w.heap.size,j,none⟩ = false := fun j => by rw [hW1]; exact World.frozen?_alloc_at (w := w.drew) ROW _ w.heap.size j rfl
  have hOb : ∀ j v,w.cell? ⟨g,j,none⟩ = some v → W1.cell? ⟨g,j,none⟩ = some v := fun j v h => by rw [hW1,World.cell?_alloc_past (w := w.drew) _ g j hgw]; exact h
  have hOv : ∀ j v,w.cell? ⟨c,j,none⟩ = some v → W1.cell? ⟨c,j,none⟩ = some v := fun j v h => by rw [hW1,World.cell?_alloc_past (w := w.drew) _ c j hvw]; exact h
  have hcpA : ∀ (W : World),(∀ x,W.cell? x = W1.cell? x) → (∀ x,W.frozen? x = W1.frozen? x) → ∀ ty dc,(Builtin.copy_ #[25,25] ty #[.slice (some ⟨w.heap.size,0,none⟩) (n + 1) dc,.slice (some ⟨c,off,none⟩) 1 vc]).run Tryd.prog W = .ok (goInt 1) (W.setCells w.heap.size 0 xs) := fun W hWc hWf ty dc => by
    have := FF (P := Tryd.prog) W 25 25 ty 27 6 w.heap.size 0 (n + 1) dc ⟨c,off,none⟩ 1 vc xs Jc UW (by rw [hxl]; simp [Nat.min_def])
      (fun j v hj => by rw [Addr.add_lit,hWc]; exact hOv _ v (hx j v hj))
      (fun j hj => by rw [hWc]; exact hN _ (by omega)) (fun j hj => by rw [hWf]; exact hNf _) h1x
    rwa [show Nat.min 1 (n + 1) = 1 by simp [Nat.min_def]] at this
  have hbN : g ≠ w.heap.size := by omega
  have hcpB : ∀ (W : World),(∀ x,W.cell? x = (W1.setCells w.heap.size 0 xs).cell? x) → (∀ x,W.frozen? x = (W1.setCells w.heap.size 0 xs).frozen? x) → ∀ ty dc sc,(Builtin.copy_ #[25,25] ty #[.slice (some ⟨w.heap.size,6,none⟩) n dc,.slice (some ⟨g,0,none⟩) n sc]).run Tryd.prog W = .ok (goInt n) (W.setCells w.heap.size 6 old) := fun W hWc hWf ty dc sc => by
    have := FF (P := Tryd.prog) W 25 25 ty 27 6 w.heap.size 6 n dc ⟨g,0,none⟩ n sc old Jc UW (by rw [hol]; simp [Nat.min_def])
      (fun j v hj => by
        rw [Addr.add_lit,hWc,World.cell?_setCells_out _ _ _ _ _ (fun h _ => absurd h hbN),Nat.zero_add]
        exact hOb _ v (hoc j v hj))
      (fun j hj => by rw [hWc]; exact isSome_setCells _ _ _ _ (fun t ht => hN _ (by omega)) _ (hN _ (by omega)))
      (fun j hj => by rw [hWf,World.frozen?_setCells]; exact hNf _) h1o
    rwa [show Nat.min n n = n by simp [Nat.min_def]] at this
  subst hW1
  have hE1 : ∀ x,((w.alloc (.cells ROW 27)).drew).cell? x = (w.drew.alloc (.cells ROW 27)).cell? x := fun x => rfl
  have hE2 : ∀ x,((w.alloc (.cells ROW 27)).drew).frozen? x = (w.drew.alloc (.cells ROW 27)).frozen? x := fun x => rfl
  have hF1 : ∀ x,(((w.alloc (.cells ROW 27)).drew.setCells w.heap.size 0 xs).drew).cell? x = ((w.drew.alloc (.cells ROW 27)).setCells w.heap.size 0 xs).cell? x := fun x => rfl
  have hF2 : ∀ x,(((w.alloc (.cells ROW 27)).drew.setCells w.heap.size 0 xs).drew).frozen? x = ((w.drew.alloc (.cells ROW 27)).setCells w.heap.size 0 xs).frozen? x := fun x => rfl
  have hn0 : ¬ ((0 : Int) = (n : Int)) := by omega
  have hc1 : ((n : Int) + 1 > (n : Int)) := by omega
  have hw0 : IntKind.i64.wrap ((n : Int) + 1) = (n : Int) + 1 := by rw [IntKind.wrap_i64]; omega
  have hw1 : IntKind.i64.wrap 1 = 1 := by decide
  have hw2 : (1 : Int).toNat = 1 := rfl
  have hb3 : (1 : Int) ≤ (n : Int) + 1 := by omega
  have hb0 : (0 : Int) ≤ (n : Int) + 1 := by omega
  have hb5 : (0 : Int) ≤ (n : Int) := by omega
  have hG0 : ¬ (G = 0) := by omega
  have hG1 : ¬ (G = 1) := by omega
  have hnn0 : ¬ (n = 0) := by omega
  have mixed : Tryd.prog.follows Departure.mixedOrders = true := by kernel_rfl
  have key : Calls Tryd.prog 45 #[.slice (some ⟨g,0,none⟩) n n,.int .i64 0,.slice (some ⟨c,off,none⟩) 1 vc] w fun e w' =>
      e = .returned (.slice (some ⟨w.heap.size,0,none⟩) (n + 1) G) ∧ w' = (((w.alloc (.cells ROW 27)).drew.setCells w.heap.size 0 xs).drew).setCells w.heap.size 6 old := by
    clear hhold hROW hG hg
    go_enter Tryd.func45,Tryd.ntmps45
    go_wp2_with (first
      | (at_builtin; refine Lib.wpList_append_run _ rfl _ _ _ _ rfl _ _ rfl rfl _ _ (hrz _) ?_)
      | (at_builtin; refine wpList_copy_runI _ rfl _ _ 25 25 rfl _ _ rfl rfl (hcpA _ hE1 hE2 _ _) ?_)
      | (at_builtin; refine wpList_copy_runI _ rfl _ _ 25 25 rfl _ _ rfl rfl (hcpB _ (fun _ => rfl) (fun _ => rfl) _ _ _) ?_))
    go_region_law_o (refine step_copy_runI rfl _ _ 25 25 rfl (.slice (some ⟨w.heap.size,6,none⟩) n (G - 1)) (.slice (some ⟨g,0,none⟩) n n) (by simp [Act.eval,Act.put]) (by simp [Act.eval,Act.put]) (hcpB _ hF1 hF2 _ _ _) ?_)
    go_wp2
    go_ret
    exact ⟨rfl,rfl⟩
  exact key.mono fun e w' he => ⟨G,ROW,hGn,hRs,he.1,he.2⟩
set_option maxHeartbeats 4000000 in
set_option maxRecDepth 100000 in
theorem QgE (O : Option Addr) (c off vc : Nat) (w : World) (xs : List Value) (hx : ∀ j v,xs[j]? = some v → w.cell? ⟨c,off + j,none⟩ = some v) (hxl : xs.length = 6) (h1x : ∀ v ∈ xs,v.oneCell' = true) :
    Calls Tryd.prog 45 #[.slice O 0 0,.int .i64 0,.slice (some ⟨c,off,none⟩) 1 vc] w fun e w' =>
      ∃ G ZS,1 ≤ G ∧ (xs.toArray ++ ZS).size = G * 6 ∧ e = .returned (.slice (some ⟨w.heap.size,0,none⟩) 1 G) ∧ w' = w.drew.alloc (.cells (xs.toArray ++ ZS) 27) := by
  obtain ⟨i0,z,hi0,hz0,hzs,hzb,hz6⟩ := LS
  have hsrc : Src Tryd.prog i0.size 25 (.slice (some ⟨c,off,none⟩) 1 vc) 1 xs w := Src.ofSlice w Jc ⟨c,off,none⟩ 1 vc xs (by rw [hzs]; omega) (fun j u hj => by rw [Addr.add_lit]; exact hx j u hj) h1x
  have hhold : (Builtin.firstCells i0.size 0 (.slice O 0 0)).run Tryd.prog w.drew = .ok ([] : List Value).toArray w.drew := by
    cases O with
    | none => exact run_firstCells_none w.drew i0.size 0 0 0
    | some a => exact run_firstCells_some w.drew i0.size 0 a 0 0 [] (by simp) (fun j v hj => by simp at hj)
  have hrun : ∀ ty,(Builtin.append_ #[25,25] ty #[.slice O 0 0,.slice (some ⟨c,off,none⟩) 1 vc]).run Tryd.prog w = _ := fun ty =>
    run_append_grow_src w 25 25 ty 27 i0 z Jc hi0 hz0 O 0 0 [] hhold _ 1 xs hsrc (by omega) (by omega) (by rw [hzb]; exact growslice_fits (by omega) (by omega))
  simp only [List.nil_append,Nat.zero_add] at hrun
  have hGn : 1 ≤ grownCap w 1 0 27 := grownCap_ge w _ _ _
  have mixed : Tryd.prog.follows Departure.mixedOrders = true := by kernel_rfl
  have key : Calls Tryd.prog 45 #[.slice O 0 0,.int .i64 0,.slice (some ⟨c,off,none⟩) 1 vc] w fun e w' =>
      e = .returned (.slice (some ⟨w.heap.size,0,none⟩) 1 (grownCap w 1 0 27)) ∧ w' = w.drew.alloc (.cells (xs.toArray ++ Builtin.zeroCells z.cells (grownCap w 1 0 27 - 1)) 27) := by
    generalize grownCap w 1 0 27 = G at hrun hGn ⊢
    generalize Builtin.zeroCells z.cells (G - 1) = ZS at hrun ⊢
    go_enter Tryd.func45,Tryd.ntmps45
    cases O with
    | none =>
      go_wp2_with (at_builtin; refine Lib.wpList_append_run _ rfl _ _ _ _ rfl _ _ rfl rfl _ _ (hrun _) ?_)
      go_ret
      exact ⟨rfl,rfl⟩
    | some a =>
      obtain ⟨ab,ao,asp⟩ := a
      go_wp2_with (at_builtin; refine Lib.wpList_append_run _ rfl _ _ _ _ rfl _ _ rfl rfl _ _ (hrun _) ?_)
      all_goals (go_ret; exact ⟨rfl,rfl⟩)
  exact key.mono fun e w' he => ⟨_,_,hGn,by rw [Array.size_append,F5 z hz6]; simp [hxl]; omega,he.1,he.2⟩
set_option maxHeartbeats 4000000 in
set_option maxRecDepth 100000 in
theorem Ql9 (b off n c : Nat) (xs : List Value) (w : World) (h0 : 0 < n) (hbig : n ≤ 1000000000000) (hx : ∀ j v,xs[j]? = some v → w.cell? ⟨b,off + j,none⟩ = some v) (hxl : xs.length = n * 6) (h1x : ∀ v ∈ xs,v.oneCell' = true) :
    Calls Tryd.prog 46 #[.slice (some ⟨b,off,none⟩) n c] w fun e w' =>
      ∃ G ZS,n ≤ G ∧ (xs.toArray ++ ZS).size = G * 6 ∧ e = .returned (.slice (some ⟨w.heap.size + 1,0,none⟩) n G) ∧ w' = (w.alloc (.cells #[] 27)).drew.alloc (.cells (xs.toArray ++ ZS) 27) := by
  obtain ⟨i0,z,hi0,hz0,hzs,hzb,hz6⟩ := LS
  have hx' : ∀ j v,xs[j]? = some v → (w.alloc (.cells #[] 27)).cell? ⟨b,off + j,none⟩ = some v := fun j v hj => Lib.cell?_alloc_some _ (hx j v hj)
  have hsrc : Src Tryd.prog i0.size 25 (.slice (some ⟨b,off,none⟩) n c) n xs (w.alloc (.cells #[] 27)) := Src.ofSlice _ Jc ⟨b,off,none⟩ n c xs (by rw [hzs]; omega) (fun j u hj => by rw [Addr.add_lit]; exact hx' j u hj) h1x
  have hrun : ∀ (a : Addr) ty,(Builtin.append_ #[25,25] ty #[.slice (some a) 0 0,.slice (some ⟨b,off,none⟩) n c]).run Tryd.prog (w.alloc (.cells #[] 27)) = _ := fun a ty =>
    run_append_grow_src (w.alloc (.cells #[] 27)) 25 25 ty 27 i0 z Jc hi0 hz0 (some a) 0 0 [] (run_firstCells_some _ i0.size 0 a 0 0 [] (by simp) (fun j v hj => by simp at hj)) _ n xs hsrc (by omega) (by omega) (by rw [hzb]; exact growslice_fits (by omega) (by omega))
  simp only [List.nil_append,Nat.zero_add] at hrun
  have hGn : n ≤ grownCap (w.alloc (.cells #[] 27)) n 0 27 := grownCap_ge _ _ _ _
  have q22 : ∀ (w : World) (a : Option Addr) (n c n' c' : Nat),(binOp .eql 25 (.slice a n c) (.slice none n' c')).run Tryd.prog w = .ok (.bool a.isNone) w := fun w a n c n' c' => Lib.run_eql_slice_nil w _ _ a n c n' c' Jc
  have mixed : Tryd.prog.follows Departure.mixedOrders = true := by kernel_rfl
  have hws : (w.alloc (.cells #[] 27)).heap.size = w.heap.size + 1 := by simp
  rw [hws] at hrun
  have key : Calls Tryd.prog 46 #[.slice (some ⟨b,off,none⟩) n c] w fun e w' =>
      e = .returned (.slice (some ⟨w.heap.size + 1,0,none⟩) n (grownCap (w.alloc (.cells #[] 27)) n 0 27)) ∧ w' = (w.alloc (.cells #[] 27)).drew.alloc (.cells (xs.toArray ++ Builtin.zeroCells z.cells (grownCap (w.alloc (.cells #[] 27)) n 0 27 - n)) 27) := by
    generalize grownCap (w.alloc (.cells #[] 27)) n 0 27 = G at hrun hGn ⊢
    generalize Builtin.zeroCells z.cells (G - n) = ZS at hrun ⊢
    clear hx hxl hx'
    go_enter Tryd.func46,Tryd.ntmps46
    go_wp2_with (at_builtin; refine Lib.wpList_append_run _ rfl _ _ _ _ rfl _ _ rfl rfl _ _ (hrun _ _) ?_)
    go_ret
    exact ⟨rfl,rfl⟩
  exact key.mono fun e w' he => ⟨_,_,hGn,by rw [Array.size_append,F5 z hz6]; simp [hxl]; omega,he.1,he.2⟩
set_option maxHeartbeats 4000000 in
set_option maxRecDepth 100000 in
theorem Qi1 (a : Option Addr) (c : Nat) (w : World) :
    Calls Tryd.prog 46 #[.slice a 0 c] w fun e w' => (∃ a',e = .returned (.slice a' 0 0)) ∧ (w' = w ∨ w' = w.alloc (.cells #[] 27)) := by
  obtain ⟨i0,hi0,hs0⟩ : ∃ i,Tryd.prog.info? 27 = some i ∧ i.size = 6 := by
    obtain ⟨i0,z,hi0,hz0,hzs,_⟩ := LS
    exact ⟨i0,hi0,hzs⟩
  have q22 : ∀ (w : World) (a : Option Addr) (n c n' c' : Nat),(binOp .eql 25 (.slice a n c) (.slice none n' c')).run Tryd.prog w = .ok (.bool a.isNone) w := fun w a n c n' c' => Lib.run_eql_slice_nil w _ _ a n c n' c' Jc
  have mixed : Tryd.prog.follows Departure.mixedOrders = true := by kernel_rfl
  cases a with
  | none =>
    go_enter Tryd.func46,Tryd.ntmps46
    go_wp2
    go_ret
    exact ⟨⟨_,rfl⟩,.inl rfl⟩
  | some a =>
    obtain ⟨ab,ao,asp⟩ := a
    have hrun : ∀ (w : World) (a : Addr) ty,(Builtin.append_ #[25,25] ty #[.slice (some a) 0 0,.slice (some ⟨ab,ao,asp⟩) 0 c]).run Tryd.prog w = .ok (.slice (some a) 0 0) w := fun w a ty => by
      simp [Builtin.append_,run_underlying Jc,Go.sizeOf,typeInfo,hi0,Builtin.lenOf,Builtin.firstCells,loadCells,loadCellsFrom,storeCells]
    go_enter Tryd.func46,Tryd.ntmps46
    go_wp2_with (at_builtin; refine Lib.wpList_append_run _ rfl _ _ _ _ rfl _ _ rfl rfl _ _ (hrun _ _ _) ?_)
    go_ret
    exact ⟨⟨_,rfl⟩,.inr rfl⟩
end Go.Proofs.YtdnmpaielmfiiaaDoor
end
