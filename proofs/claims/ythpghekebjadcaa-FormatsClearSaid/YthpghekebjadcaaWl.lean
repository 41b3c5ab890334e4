/- Wl: a part of the proof that each law of this seat answers true at every input. No condition. -/
import Derived.Test.YthpghekebjadcaaWk
import Derived.Test.YthpghekebjadcaaShelf
import Derived.RangeFuncBound
import Derived.Sort.OwnSorted
import Derived.Carry
import Derived.Maps.Own
import Derived.Maps.OwnIn
set_option linter.unusedVariables false
set_option linter.unusedSimpArgs false
set_option maxRecDepth 2000
section
namespace Go.Proofs.Ythpghekebjadcaa
open Go Go.RowKit Go.Maps Go.Sort Go.Shelf Go.Proofs
def K20.SortsIn (F : Fence) (m : Nat) : Prop :=
  (∀ (blk off cap : Nat) (ss : List (List UInt8)) (W : World),Holds encStr W blk off ss.toArray → blk < W.heap.size → ss.length < 4611686018427387904 →
    CallsIn F m Try.prog 61 #[.slice (some ⟨blk,off,none⟩) ss.length cap] W fun e w' => e = .returned (.tuple #[]) ∧ ∃ k os,w' = grow (putRow encStr (Sort.ahead W k) blk off (ss.mergeSort fun x y => decide (x ≤ y)).toArray) os) ∧
  (∀ (p : Option Addr) (cap : Nat) (W : World),CallsIn F m Try.prog 61 #[.slice p 0 cap] W fun e w' => e = .returned (.tuple #[]) ∧ w' = W)
set_option maxRecDepth 100000 in
set_option maxHeartbeats 2000000 in
theorem K20.sorted_in (F : Fence) (n : Nat) (h6 : F.fn 38) (h8 : F.fn 60) (h9 : F.fn 61) (h11 : F.fn 75) (hro : F.round = none) (hn : 4 ≤ n) (hsort : K20.SortsIn F (n - 1)) (g : Nat) (lb : Array Value) (hFg : F.fn g) (eg : ∀ args w,(callFunc g args).run Try.prog w = .ok (.enter g args) w)
    (S : List (List UInt8) → Prop) (N : Nat) (hN : N ≤ maxLen) (hNb : N * 16 ≤ 140737488355328) (w : World) (hseq : SeqGives F (n - 1 - 1 - 1) Try.prog g lb encStr S N w) :
    CallsIn F n Try.prog 38 #[.func (.func g) #[] lb] w fun e w' => ∃ (v : Value) (ss : List (List UInt8)),e = .returned v ∧ S ss ∧
      w'.ownsRow w.heap.size 9 1 v ss.length ((ss.mergeSort (fun x y => decide (x ≤ y))).map encStr) ∧ (v = .slice none 0 0 ↔ ss = []) ∧ Below w.heap.size w w' := by
  have h1 : 1 ≤ n := by omega
  refine callsIn_of_wp Try.func38 rfl h6 ?_ hro
  simp only [Try.ntmps38,List.size_toArray,List.length_cons,List.length_nil,Nat.reduceAdd,Nat.reduceSub,Array.replicate_succ,Array.replicate_zero,List.push_toArray,List.append_toArray,List.nil_append,List.cons_append]
  gi_wp2_with (gi_at_call 60; refine (K20.collect_in F (n - 1) h8 h11 hro (by omega) g lb hFg eg _ N hN hNb _ hseq.bounded).mono ?_; rintro e W ⟨v,ss,rfl,⟨hS,hlen⟩,hrow,hnil,hb⟩)
  rcases hrow.2 with ⟨rfl,hz⟩ | ⟨gb,cap,cur,rfl,hbase,hgb,r1,r2,r3,r4⟩
  ·
    have hss : ss = [] := List.eq_nil_of_length_eq_zero hz
    subst hss
    gi_wp2_with (gi_at_call 61; refine (hsort.2 none 0 W).mono ?_; rintro e w' ⟨rfl,rfl⟩)
    go_ret
    exact ⟨.slice none 0 0,[],rfl,hS,by simpa using hrow,by simp,hb⟩
  · have hH : Holds encStr W gb 0 ss.toArray := holds_of_block hgb (by simpa using r4)
    have hgl : gb < W.heap.size := (Array.getElem?_eq_some_iff.1 hgb).1
    have hsz : ss.length < 4611686018427387904 := by omega
    have cS := hsort.1 gb 0 cap ss W hH hgl hsz
    gi_wp2_with (gi_at_call 61; refine cS.mono ?_; rintro e w' ⟨rfl,nn,os,rfl⟩)
    go_ret
    exact ⟨_,ss,rfl,hS,ownsRow_sorted (by simp) hbase hgb r1 r2 r3,hnil,hb.grown (grownBy_sorted _) hb.size (fun j hj => by cases hj; exact hbase)⟩
theorem K20.sorts_wide (m : Nat) : K20.SortsIn Fence.wide m :=
  ⟨fun blk off cap ss W hH hblk hsz => callsIn_wide.2 (Try.slices_Sort_string blk off cap ss W hH hblk hsz),
   fun p cap W => callsIn_wide.2 (Try.slices_Sort_string_none p cap W)⟩
theorem FY {H : Type} {F : Fence} {nF : Nat} {P : Program} (w : World) {ops : Array Oper} {rest : List Oper} {o : Oper} {a : Act} {Q : Exit → Act → World → Prop}
    (hg : o.guard = none) (m x v : Operand) (t : TypeId) (hop : o.op = Op.insert t m x v)
    (k e : TypeId) (K : Keyed P k) (ht : P.underlying t = some (.map k e)) (R : Value → Option (DataW H × List MemPlace)) (b n : Nat) (D : DataW H)
    (hm : a.eval m = .map (some b)) (hown : w.ownsMap P k R b n D) (hn : n < maxLen) (key val : Value) (kl : Lit) (hx : a.eval x = key) (hv : a.eval v = val) (hkey : keyOf P k key = some kl)
    (d : DataW H) (ps : List MemPlace) (hval : R val = some (d,ps))
    (hK : ∀ w',w'.ownsMap P k R b (n + 1) (D.put kl d) → w.grownBy w' (some b) → wpListIn F nF P ops Q rest (a.put o.dst undef) w') :
    wpListIn F nF P ops Q (o :: rest) a w := by
  refine wpListIn_plain hg fun K' hK' => ?_
  obtain ⟨w',hrun,r1,r2⟩ := hown.update K ht hn hkey hval
  unfold Oper.wpIn
  refine ⟨by simp [Oper.about,hop],?_⟩
  rw [Oper.semAt_plain F _ _ (by rw [hop]; intro c hc'; cases hc')]
  simp [execOp,hop,hm,hx,hv,hrun,Result.andThen]
  exact hK' _ _ (hK w' r1 r2)
abbrev kJ : Lit := .string [106,115,111,110]
abbrev kC : Lit := .string [99,115,118]
abbrev kI : Lit := .string [105,110,105]
abbrev kS : Lit := .string [115,117,109,115]
abbrev dF : DataW Unit := .lit (.bool false)
abbrev D4 : DataW Unit := ((((DataW.map []).put kJ dF).put kC dF).put kI dF).put kS dF
theorem QeO : strKeys D4 = [[99,115,118],[105,110,105],[106,115,111,110],[115,117,109,115]] := by decide +kernel
set_option maxRecDepth 100000 in
set_option maxHeartbeats 4000000 in
theorem all_in (F : Fence) (n : Nat) (h18 : F.fn 18) (hro : F.round = none) (w : World) :
    CallsIn F n Try.prog 18 #[] w fun e w' => e = .returned (.map (some w.heap.size)) ∧ w'.ownsMap Try.prog 9 RF w.heap.size 4 D4 ∧ Below w.heap.size w w' := by
  have hmm := @run_makeMap Try.prog
  refine callsIn_of_wp Try.func18 rfl h18 ?_ hro
  simp only [Try.ntmps18,List.size_toArray,List.length_cons,List.length_nil,Nat.reduceAdd,Nat.reduceSub,Array.replicate_succ,Array.replicate_zero,List.push_toArray,List.append_toArray,List.nil_append,List.cons_append]
  gi_wp2_with (first
    | (refine FY _ rfl _ _ _ 54 rfl 9 53 Bt Try.underlying54 RF w.heap.size 3 _ rfl ((h3.alloc _).alloc _) (by unfold maxLen; omega) _ _ kS rfl rfl (by kernel_rfl) dF [] rfl ?_; intro w4 h4 g4)
    | (refine FY _ rfl _ _ _ 54 rfl 9 53 Bt Try.underlying54 RF w.heap.size 2 _ rfl ((h2.alloc _).alloc _) (by unfold maxLen; omega) _ _ kI rfl rfl (by kernel_rfl) dF [] rfl ?_; intro w3 h3 g3)
    | (refine FY _ rfl _ _ _ 54 rfl 9 53 Bt Try.underlying54 RF w.heap.size 1 _ rfl (h1.alloc _) (by unfold maxLen; omega) _ _ kC rfl rfl (by kernel_rfl) dF [] rfl ?_; intro w2 h2 g2)
    | (refine FY _ rfl _ _ _ 54 rfl 9 53 Bt Try.underlying54 RF w.heap.size 0 (.map []) rfl (((World.ownsMap_made w Try.prog 9 RF).alloc _).alloc _) (by unfold maxLen; omega) _ _ kJ rfl rfl (by kernel_rfl) dF [] rfl ?_; intro w1 h1 g1)
    | gi_in)
  go_ret
  have b1 : Below w.heap.size w w1 := Below.grown ((((Below.refl _ w).alloc (Nat.le_refl _) _).alloc (by simp) _).alloc (by simp; omega) _) g1 (by simp; omega) (fun k e => by cases e; exact Nat.le_refl _)
  have b2 : Below w.heap.size w w2 := Below.grown (b1.alloc b1.size _) g2 (by have := b1.size; simp; omega) (fun k e => by cases e; exact Nat.le_refl _)
  have b3 : Below w.heap.size w w3 := Below.grown ((b2.alloc b2.size _).alloc (by have := b2.size; simp; omega) _) g3 (by have := b2.size; simp; omega) (fun k e => by cases e; exact Nat.le_refl _)
  have b4 : Below w.heap.size w w4 := Below.grown ((b3.alloc b3.size _).alloc (by have := b3.size; simp; omega) _) g4 (by have := b3.size; simp; omega) (fun k e => by cases e; exact Nat.le_refl _)
  exact ⟨rfl,h4,b4⟩
theorem QhQ {ss : List (List UInt8)} (h : ss.Perm (strKeys D4)) : ss.mergeSort (fun x y => decide (x ≤ y)) = [[99,115,118],[105,110,105],[106,115,111,110],[115,117,109,115]] := by
  have e := mergeSort_of_perm h
  rw [QeO] at e
  refine e.trans ?_
  exact List.mergeSort_of_pairwise (by decide +kernel)
set_option maxHeartbeats 1000000 in
theorem Qni (F : Fence) (n : Nat) (h17 : F.fn 17) (h18 : F.fn 18) (h6 : F.fn 38) (h7 : F.fn 39) (h8 : F.fn 60) (h9 : F.fn 61) (h10 : F.fn 62) (h11 : F.fn 75) (hro : F.round = none) (hn : 6 ≤ n) (hsort : K20.SortsIn F (n - 1 - 1)) (w : World) :
    CallsIn F n Try.prog 17 #[] w fun e w' => ∃ (v : Value) (ss : List (List UInt8)),e = .returned v ∧ ss.Perm (strKeys D4) ∧
      w'.ownsRow w.heap.size 9 1 v ss.length ((ss.mergeSort (fun x y => decide (x ≤ y))).map encStr) ∧ Below w.heap.size w w' := by
  have h1 : 1 ≤ n := by omega
  have hmax : Maps.size D4 ≤ maxLen := by decide +kernel
  have hbytes : Maps.size D4 * 16 ≤ 140737488355328 := by decide +kernel
  refine callsIn_of_wp Try.func17 rfl h17 ?_ hro
  simp only [Try.ntmps17,List.size_toArray,List.length_cons,List.length_nil,Nat.reduceAdd,Nat.reduceSub,Array.replicate_succ,Array.replicate_zero,List.push_toArray,List.append_toArray,List.nil_append,List.cons_append]
  gi_wp2_with (first
    | (gi_at_call 18; refine (all_in F (n - 1) h18 hro _).mono ?_; rintro e w1 ⟨rfl,hown,hb1⟩)
    | (gi_at_call 39; refine (K20.keys_in F (n - 1) h7 hro _ _).mono ?_; rintro e w' ⟨rfl,rfl⟩)
    | (gi_at_call 38; refine (K20.sorted_in F (n - 1) h6 h8 h9 h11 hro (by omega) hsort 62 _ h10 (enters_of Try.func62 (by kernel_rfl) rfl) _ _ hmax hbytes _ (K20.keys_gives F _ h10 hro (by omega) w1.heap.size w.heap.size 4 D4 _ (by simp) (by simp) (hown.alloc _))).mono ?_; rintro e w' ⟨v,ss,rfl,hS,hrow,hnil,hb⟩))
  go_ret
  have hs1 := hb1.size
  exact ⟨v,ss,rfl,hS,Qi0 hrow (by simp; omega),(hb1.alloc hb1.size _).trans (hb.mono (by simp; omega))⟩
theorem Qpj (w : World) : Calls Try.prog 17 #[] w fun e w' => ∃ (v : Value),e = .returned v ∧ w'.ownsRow w.heap.size 9 1 v 4 (([[99,115,118],[105,110,105],[106,115,111,110],[115,117,109,115]] : List (List UInt8)).map encStr) ∧ Below w.heap.size w w' := by
  refine (callsIn_wide.1 (Qni Fence.wide 6 trivial trivial trivial trivial trivial trivial trivial trivial rfl (Nat.le_refl _) (K20.sorts_wide _) w)).mono ?_
  rintro e w' ⟨v,ss,rfl,hp,hrow,hb⟩
  have hl : ss.length = 4 := by rw [hp.length_eq,QeO]; rfl
  rw [QhQ hp,hl] at hrow
  exact ⟨v,rfl,hrow,hb⟩
end Go.Proofs.Ythpghekebjadcaa
end
