/- Wf: a part of the proof that each law of this seat answers true at every input. No condition. -/
import Derived.Test.YtdnmpaielmfiiaaDoorWe
set_option linter.unusedVariables false
set_option linter.unusedSimpArgs false
set_option maxRecDepth 2000
section
namespace Go.Proofs.YtdnmpaielmfiiaaDoor
open Go Go.Ev Go.RowKit Go.Shelf
attribute [local go_sem] Oper.semAt_some
set_option maxHeartbeats 1000000 in
theorem all_in (F : Fence) (n : Nat) (h : F.fn 89) (hro : F.round = none) (w0 w1 w2 w3 : Nat) (w : World) :
    CallsIn F n Tryd.prog 89 #[.agg #[.int .u64 w0,.int .u64 w1,.int .u64 w2,.int .u64 w3]] w fun e w' => e = .returned (.func (.func 92) #[] #[.pointer (some ⟨w.heap.size,0,none⟩)]) ∧ w' = w.alloc (.cells #[.int .u64 w0,.int .u64 w1,.int .u64 w2,.int .u64 w3] 24) := by
  refine callsIn_of_wp Tryd.func89 rfl h ?_ hro
  simp only [Tryd.ntmps89,List.size_toArray,List.length_cons,List.length_nil,Nat.reduceAdd,Nat.reduceSub,Array.replicate_succ,Array.replicate_zero,List.push_toArray,List.append_toArray,List.nil_append,List.cons_append]
  gi_wp2
  go_ret
  exact ⟨rfl,rfl⟩
theorem all_stops (F : Fence) (n : Nat) (h82 : F.fn 92) (h83 : F.fn 93) (hro : F.round = none) (hn : 1 ≤ n) (Bn n₀ : Nat) (w0 w1 w2 w3 : Nat) (g0 : w0 < 2 ^ 64) (g1 : w1 < 2 ^ 64) (g2 : w2 < 2 ^ 64) (g3 : w3 < 2 ^ 64)
    (hg : 1 < n₀) (w : World) (hn₀ : n₀ ≤ w.heap.size) (hB : w.heap[Bn]? = some (.cells #[.int .u64 w0,.int .u64 w1,.int .u64 w2,.int .u64 w3] 24 (0,0))) (hT : Kt w) :
    SeqStopsK F n Tryd.prog 92 #[.pointer (some ⟨Bn,0,none⟩)] (fun x : Int => #[Value.int .i64 x]) (Below n₀) (fun ys => ys = Zi [w0,w1,w2,w3] 4) (fun pre => pre <+: Zi [w0,w1,w2,w3] 4) (Zi [w0,w1,w2,w3] 4).length w := fun l J Jx W hW _ _ hY h0 =>
  Ql4 F n h82 h83 hro hn l Bn n₀ w0 w1 w2 w3 g0 g1 g2 g3 hg J Jx hY W ((hW.block Bn (Array.getElem?_eq_some_iff.1 hB).1).trans hB) (fun i hi => (hW.cell (p := ⟨1,i,none⟩) (Nat.lt_of_lt_of_le hg hn₀)).trans (hT i hi)) h0
def Y3 (l : List (Int × Int)) : List Value := l.flatMap fun x => [.int .i64 x.1,.int .i64 x.2]
theorem Ra (xs : List Int) (b : Int) : rgs (xs ++ [b]) = Z2 (rgs xs) b := by simp [rgs]
theorem QcN (l : List (Int × Int)) : (Y3 l).length = l.length * 2 := by
  induction l with
  | nil => rfl
  | cons x l ih => simp only [Y3,List.flatMap_cons,List.length_append,List.length_cons,List.length_nil] at ih ⊢; omega
theorem Qih (xs : List Int) : (rgs xs).length ≤ xs.length := by
  have : ∀ (xs : List Int) l,(xs.foldl Z2 l).length ≤ l.length + xs.length := by
    intro xs
    induction xs with
    | nil => intro l; simp
    | cons x xs ih =>
      intro l
      have h := ih (Z2 l x)
      have h2 : (Z2 l x).length ≤ l.length + 1 := by
        unfold Z2
        split
        · rename_i y hy
          have : l ≠ [] := by rintro rfl; simp at hy
          have : 0 < l.length := List.length_pos_iff.2 this
          split <;> simp <;> omega
        · simp
      simp only [List.foldl_cons,List.length_cons] at h ⊢
      omega
  have h := this xs []
  rw [List.length_nil,Nat.zero_add] at h
  exact h
theorem QmT : (Tryd.prog.info? 84).map (fun i => (i.zero,i.size,i.bytes)) = some (some (.agg #[.int .i64 0,.int .i64 0]),2,16) := by kernel_rfl
theorem Qd9 : Tryd.prog.underlying 80 = some (.slice 84) := by kernel_rfl
theorem CV (l : List (Int × Int)) (x : Int × Int) : Y3 (l ++ [x]) = Y3 l ++ [.int .i64 x.1,.int .i64 x.2] := by simp [Y3]
theorem QoT {W : World} {n₀ g m cap : Nat} {M : List (Int × Int)} {lo hi : Int} (hm : M.length = m) (h : W.ownsRow n₀ 84 2 (.slice (some ⟨g,0,none⟩) (m + 1) cap) (m + 1) (Y3 (M ++ [(lo,hi)]))) :
    W.cell? ⟨g,m * 2 + 1,none⟩ = some (.int .i64 hi) ∧ W.frozen? ⟨g,m * 2 + 1,none⟩ = false ∧ n₀ ≤ g ∧ ∃ cur,W.heap[g]? = some (.cells cur 84 (0,0)) ∧
      ∀ b : Int,(W.setCell ⟨g,m * 2 + 1,none⟩ (.int .i64 b)).ownsRow n₀ 84 2 (.slice (some ⟨g,0,none⟩) (m + 1) cap) (m + 1) (Y3 (M ++ [(lo,b)])) := by
  rcases h.2 with ⟨h0,_⟩ | ⟨g',cap',cur,hv,hb,hg,hc1,hc2,hc3,hc4⟩
  · cases h0
  · simp only [Value.slice.injEq,Option.some.injEq,Addr.mk.injEq,true_and,and_true] at hv
    obtain ⟨rfl,rfl⟩ := hv
    rw [CV] at hc4
    have hl := QcN M
    have hlt : m * 2 + 1 < cur.size := by omega
    have hx : cur[m * 2 + 1]? = some (.int .i64 hi) := by
      have : (cur.toList.take ((m + 1) * 2))[m * 2 + 1]? = some (.int .i64 hi) := by
        rw [hc4,List.getElem?_append_right (by omega),hl,hm,show m * 2 + 1 - m * 2 = 1 by omega]; rfl
      rw [List.getElem?_take_of_lt (by omega)] at this
      simpa using this
    refine ⟨by simp [World.cell?,hg,hx],by simp [World.frozen?,hg],hb,cur,hg,fun b => ⟨by rw [QcN]; simp [hm],.inr ⟨g,cap,cur.setIfInBounds (m * 2 + 1) (.int .i64 b),rfl,hb,?_,hc1,hc2,by simpa using hc3,?_⟩⟩⟩
    · obtain ⟨hlt',hk⟩ := Array.getElem?_eq_some_iff.1 hg
      show (W.heap.modify g _)[g]? = _
      rw [Array.getElem?_eq_getElem (by rw [Array.size_modify]; exact hlt'),Array.getElem_modify_self,hk]
      rfl
    · rw [Array.toList_setIfInBounds,List.take_set,hc4,CV,List.set_append_right _ _ (by omega),hl,hm,show m * 2 + 1 - m * 2 = 1 by omega]
      rfl
theorem QaB (b : Int) : Z2 [] b = [(b,b)] := rfl
theorem QcG (M : List (Int × Int)) (lo b : Int) : Z2 (M ++ [(lo,wrap64 (b - 1))]) b = M ++ [(lo,b)] := by simp [Z2]
theorem QcK (M : List (Int × Int)) (lo hi b : Int) (h : hi ≠ wrap64 (b - 1)) : Z2 (M ++ [(lo,hi)]) b = M ++ [(lo,hi)] ++ [(b,b)] := by simp [Z2,h]
theorem cell_two_new (W : World) (a b : Value) (e : TypeId) : ∀ (j : Nat) (u : Value),[a,b][j]? = some u → (W.alloc (.cells #[a,b] e)).cell? ((⟨W.heap.size,0,none⟩ : Addr).add j) = some u := by
  intro j u h
  match j,h with
  | 0,h => simp at h; subst h; simp [Addr.add]
  | 1,h => simp at h; subst h; simp [Addr.add]
  | j + 2,h => simp at h
set_option maxRecDepth 100000 in
set_option maxHeartbeats 2000000 in
theorem QkP (F : Fence) (n : Nat) (h72 : F.fn 84) (h78 : F.fn 89) (h82 : F.fn 92) (h83 : F.fn 93) (hro : F.round = none) (hn : 3 ≤ n)
    (w0 w1 w2 w3 : Nat) (g0 : w0 < 2 ^ 64) (g1 : w1 < 2 ^ 64) (g2 : w2 < 2 ^ 64) (g3 : w3 < 2 ^ 64) (hlen : (Zi [w0,w1,w2,w3] 4).length ≤ 256) (w : World) (hg : 1 < w.heap.size) (hT : Kt w) :
    CallsIn F n Tryd.prog 84 #[.agg #[.int .u64 w0,.int .u64 w1,.int .u64 w2,.int .u64 w3]] w fun e W' => ∃ v,e = .returned v ∧ W'.ownsRow w.heap.size 84 2 v (rgs (Zi [w0,w1,w2,w3] 4)).length (Y3 (rgs (Zi [w0,w1,w2,w3] 4))) ∧ Below w.heap.size w W' := by
  have h1 : 1 ≤ n := by omega
  obtain ⟨i0,hi,hz0,hz1,hz2⟩ := info_parts QmT
  refine callsIn_of_wp_marks Tryd.func84 rfl h72 ?_ hro
  simp only [Tryd.ntmps84,List.size_toArray,List.length_cons,List.length_nil,Nat.reduceAdd,Nat.reduceSub,Array.replicate_succ,Array.replicate_zero,List.push_toArray,List.append_toArray,List.nil_append,List.cons_append]
  gi_wp2_with (gi_at_call 89; refine (all_in F (n - 1) h78 hro _ _ _ _ _).mono ?_; rintro e w' ⟨rfl,rfl⟩)
  have bO := Boxed.new (w.alloc (.cells #[.int .u64 w0,.int .u64 w1,.int .u64 w2,.int .u64 w3] 24)) 80 (.slice none 0 0)
  rw [World.size_alloc] at bO
  have hB0 : Below w.heap.size w (((w.alloc (.cells #[.int .u64 w0,.int .u64 w1,.int .u64 w2,.int .u64 w3] 24)).alloc (.cells #[.slice none 0 0] 80)).alloc (.cells #[.int .u64 w0,.int .u64 w1,.int .u64 w2,.int .u64 w3] 24)) := (((Below.refl _ w).alloc (Nat.le_refl _) _).alloc (by simp) _).alloc (by simp; omega) _
  have hBx : (((w.alloc (.cells #[.int .u64 w0,.int .u64 w1,.int .u64 w2,.int .u64 w3] 24)).alloc (.cells #[.slice none 0 0] 80)).alloc (.cells #[.int .u64 w0,.int .u64 w1,.int .u64 w2,.int .u64 w3] 24)).heap[w.heap.size + 1 + 1]? = some (.cells #[.int .u64 w0,.int .u64 w1,.int .u64 w2,.int .u64 w3] 24 (0,0)) := by
    have := World.alloc_heap_new ((w.alloc (.cells #[.int .u64 w0,.int .u64 w1,.int .u64 w2,.int .u64 w3] 24)).alloc (.cells #[.slice none 0 0] 80)) (.cells #[.int .u64 w0,.int .u64 w1,.int .u64 w2,.int .u64 w3] 24)
    simpa using this
  refine wpIn_rangeFunc_ownG hro h1 (gf := 92) (lb := #[.pointer (some ⟨w.heap.size + 1 + 1,0,none⟩)]) rfl h82 (enters_of Tryd.func92 (by kernel_rfl) rfl)
    (all_stops F (n - 1) h82 h83 hro (by omega) (w.heap.size + 1 + 1) w.heap.size w0 w1 w2 w3 g0 g1 g2 g3 hg _ (by simp; omega) hBx (fun i hi => (hB0.cell (p := ⟨1,i,none⟩) hg).trans (hT i hi))) belowK_t (belowK_b (by simp; omega)) (Below.refl _ _) (fun _ => rfl)
    (fun pre W => (∃ v,Boxed W (w.heap.size + 1) 80 v ∧ W.ownsRow w.heap.size 84 2 v (rgs pre).length (Y3 (rgs pre)) ∧ (v = .slice none 0 0 ↔ rgs pre = [])) ∧ Below w.heap.size w W)
    (fun _ _ _ => False)
    (OwnFrom.and (Own.from (holdsRow_own w.heap.size (w.heap.size + 1) 80 84 2 (fun pre => (rgs pre).length) (fun pre => Y3 (rgs pre)) (fun pre v => v = .slice none 0 0 ↔ rgs pre = [])) _) (ownFrom_below (Nat.le_refl _) (by simp; omega)))
    (fun _ _ _ _ _ hs _ _ => hs)
    ⟨⟨_,bO.alloc _,World.ownsRow_nil _ _ _ _,by simp [rgs]⟩,hB0⟩
    (fun x => { tmps := #[.agg #[.int .u64 w0,.int .u64 w1,.int .u64 w2,.int .u64 w3],.pointer (some ⟨w.heap.size,0,none⟩),.pointer (some ⟨w.heap.size + 1,0,none⟩),.int .i64 x,undef,.agg #[.int .u64 w0,.int .u64 w1,.int .u64 w2,.int .u64 w3],.func (.func 92) #[] #[.pointer (some ⟨w.heap.size + 1 + 1,0,none⟩)],.int .i64 x,undef,undef,undef,undef,undef,undef,undef,undef,undef,undef,undef,undef,undef,undef,undef,undef,undef,undef,undef,undef,undef,undef,undef,undef,undef,undef,undef],defers := [] }) ?assign ?body ?done ?stop
  case assign =>
    intro l x W K hK
    gi_wp2
    exact hK
  case body =>
    rintro l pre x W ⟨⟨v,hv,hrow,hnil⟩,hB⟩ hlt
    have hc := hv.cell
    have hf := hv.frozen
    have hpl := Qih pre
    have hsz := hB.size
    have hbox : w.heap.size ≤ w.heap.size + 1 := by omega
    have hb256 : (rgs pre).length ≤ 256 := by omega
    clear hB0 hBx bO hT hlen hlt hpl g0 g1 g2 g3 hg h72 h78 h82 h83 hn
    by_cases hL : rgs pre = []
    · obtain rfl := hnil.2 hL
      clear hnil
      rw [hL,List.length_nil] at hrow
      gi_wp2_with (gi_at_builtin; refine wpListIn_append_own _ rfl _ _ 80 rfl w.heap.size 84 i0 (.agg #[.int .i64 0,.int .i64 0]) 2 16 Qd9 hi hz0 hz1 hz2 rfl (by decide) _ _ _ rfl (hrow.alloc _) ⟨W.heap.size,0,none⟩ 1 1 [.int .i64 x,.int .i64 x] rfl rfl (cell_two_new _ _ _ _) (by simp [Value.oneCell']) (by simp only [maxLen]; omega) (by omega) (by simp; omega) ?_; intro v' w1 hown' hgrow _; obtain ⟨g',cap',rfl⟩ := ownsRow_succ hown'; obtain ⟨hv1,hv2,hr2,hk2,hb2⟩ := hv.appended (by decide) hrow hsz hbox hown' hgrow; have hc1 := hv1.cell; have hf1 := hv1.frozen)
      exact ⟨hk2.from _,hb2,⟨_,hv2,by rw [Ra,hL,QaB]; exact hr2,by rw [Ra,hL,QaB]; simp⟩,hB.trans hb2⟩
    · obtain ⟨M,⟨lo,hiv⟩,hM⟩ := (List.eq_nil_or_concat (rgs pre)).resolve_left hL
      rw [List.concat_eq_append] at hM
      obtain ⟨m,hm⟩ : ∃ m,M.length = m := ⟨_,rfl⟩
      rw [hM,List.length_append,List.length_singleton,hm] at hrow hb256
      clear hnil hL
      obtain ⟨g,cap,rfl⟩ := ownsRow_succ hrow
      obtain ⟨l1,l2,l3,cur,l4,l5⟩ := QoT hm hrow
      gi_wp2_with (gi_at_builtin; refine wpListIn_append_own _ rfl _ _ 80 rfl w.heap.size 84 i0 (.agg #[.int .i64 0,.int .i64 0]) 2 16 Qd9 hi hz0 hz1 hz2 rfl (by decide) _ _ _ rfl (hrow.alloc _) ⟨W.heap.size,0,none⟩ 1 1 [.int .i64 x,.int .i64 x] rfl rfl (cell_two_new _ _ _ _) (by simp [Value.oneCell']) (by simp only [maxLen]; omega) (by omega) (by simp; omega) ?_; intro v' w1 hown' hgrow _; obtain ⟨g',cap',rfl⟩ := ownsRow_succ hown'; obtain ⟨hv1,hv2,hr2,hk2,hb2⟩ := hv.appended (by decide) hrow hsz hbox hown' hgrow; have hc1 := hv1.cell; have hf1 := hv1.frozen)
      · have hh : hiv = wrap64 (x - 1) := by first | assumption | (simpa using (show (hiv == wrap64 (x - 1)) = true by assumption))
        have hne : w.heap.size + 1 ≠ g := fun e => hv.not_row (by decide) hrow (by simp [Value.ownBlock,e])
        have hv3 : Boxed (W.setCell ⟨g,m * 2 + 1,none⟩ (.int .i64 x)) (w.heap.size + 1) 80 (.slice (some ⟨g,0,none⟩) (m + 1) cap) := (Below.heap_setCell W ⟨g,m * 2 + 1,none⟩ _ _ hne).trans hv
        have hlm : (M ++ [(lo,x)]).length = m + 1 := by simp [hm]
        refine ⟨(KeepsOthers.setCell W _ _).from _,(Below.refl _ W).setCell (p := ⟨g,m * 2 + 1,none⟩) l3 _,⟨_,hv3,?_,?_⟩,hB.setCell (p := ⟨g,m * 2 + 1,none⟩) l3 _⟩
        · rw [Ra,hM,hh,QcG,hlm]; exact l5 x
        · rw [Ra,hM,hh,QcG]; simp
      · have hh : hiv ≠ wrap64 (x - 1) := by first | assumption | (simpa using (show ¬ (hiv == wrap64 (x - 1)) = true by assumption)) | (simpa using (show (hiv == wrap64 (x - 1)) = false by assumption))
        have hlm : (M ++ [(lo,hiv)] ++ [(x,x)]).length = m + 1 + 1 := by simp [hm]
        refine ⟨hk2.from _,hb2,⟨_,hv2,?_,?_⟩,hB.trans hb2⟩
        · rw [Ra,hM,QcK _ _ _ _ hh,hlm,CV]; exact hr2
        · rw [Ra,hM,QcK _ _ _ _ hh]; simp
  case done =>
    rintro D ys W hD rfl ⟨⟨v,hv,hrow,hnil⟩,hB⟩ hK
    have hc := hv.cell
    have hf := hv.frozen
    clear hB0 hBx bO hT hlen g0 g1 g2 g3 hg hnil
    have hr2 := hrow.kept (grownBy_setCell' W (w.heap.size + 1) v) (.inr (hv.not_row (by decide) hrow).symm)
    have hv2 := hv.set v
    have hK2 := (KeepsOthers.setCell W ⟨w.heap.size + 1,0,none⟩ v).same D _ hK rfl
    have hB2 := hB.setCell (p := ⟨w.heap.size + 1,0,none⟩) (by simp) v
    have hc2 := hv2.cell
    rcases hrow.2 with ⟨rfl,hz⟩ | ⟨gb,cap,cur,rfl,hbase,hgb,r1,r2,r3,r4⟩
    all_goals
      gi_wp2
      refine ⟨by simp,.inl ⟨_,_,rfl,run_takeDeferred hK2,?_⟩⟩
      have hc5 := cell_kept hc2 (grownBy_putObj' _ D (.deferred none)) (fun r e => by cases e; exact ⟨_,hK2,rfl⟩)
      have hB3 := hB2.trans (belowK_b (w := w) (Nat.le_refl _) _ D _ (.deferred none) (by simp at hD; omega) hK2 rfl rfl)
      refine ⟨_,?_,_,rfl,ownsRow_putObj hr2 (.deferred none) hK2 rfl,hB3⟩
      simp [results,Tryd.f84,go_sem,hc5]
  case stop =>
    rintro D c pre W _ _ h _
    exact h.elim
def tabs : Zc := fun c us => (c = 2 ∧ us = (Lib.pow10Tab.map fun z => Value.int .u64 z).toArray) ∨ (c = 1 ∧ us = (Yu.map fun z => Value.int .u8 z).toArray)
end Go.Proofs.YtdnmpaielmfiiaaDoor
end
