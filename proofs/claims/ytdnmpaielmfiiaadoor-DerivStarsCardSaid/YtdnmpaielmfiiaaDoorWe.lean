/- We: a part of the proof that each law of this seat answers true at every input. No condition. -/
import Derived.Test.YtdnmpaielmfiiaaDoorEvG
import Derived.Test.YtdnmpaielmfiiaaDoorWa
set_option linter.unusedVariables false
set_option linter.unusedSimpArgs false
set_option maxRecDepth 2000
section
namespace Go.Proofs.YtdnmpaielmfiiaaDoor
open Go Go.Ev Go.RowKit Go.Shelf
attribute [local go_sem] Oper.semAt_some
def Kt (W : World) : Prop := ∀ i,i < 64 → W.cell? ⟨1,i,none⟩ = some (.int .u8 (Yu.getD i 0))
set_option maxHeartbeats 1000000 in
theorem P9 (F : Fence) (n : Nat) (h : F.fn 93) (hro : F.round = none) {x k : Nat} (W : World) (h0 : 0 < x) (h1 : x < 2 ^ 64) (hk : x &&& (2 ^ 64 - x) = 2 ^ k) (hk' : k < 64) (hT : Kt W) :
    CallsIn F n Tryd.prog 93 #[.int .u64 (x : Int)] W fun e w' => e = .returned (.int .i64 (k : Int)) ∧ w' = W := by
  obtain ⟨t1,t2,t3⟩ := Qjb h0 h1 hk hk'
  have hcell := hT _ t2
  rw [t1] at hcell
  have hx0 : ((x : Int) == 0) = false := by simp; omega
  have key : IntKind.u64.wrap (bits BinOp.and IntKind.u64 (x : Int) (IntKind.u64.wrap (-(x : Int))) * 285870213051353865) / 288230376151711744 = ((Yd x).toNat : Int) := by
    rw [show ((Yd x).toNat : Int) = Yd x by omega]
    unfold Yd
    rw [Int.fdiv_eq_ediv_of_nonneg _ (by omega),Int.zero_sub]
    rfl
  obtain ⟨idx,hidx⟩ : ∃ idx : Nat,(Yd x).toNat = idx := ⟨_,rfl⟩
  rw [hidx] at hcell key t2
  clear hidx t1 t3 hk h1 h0
  refine callsIn_of_wp Tryd.func93 rfl h ?_ hro
  simp only [Tryd.ntmps93,List.size_toArray,List.length_cons,List.length_nil,Nat.reduceAdd,Nat.reduceSub,Array.replicate_succ,Array.replicate_zero,List.push_toArray,List.append_toArray,List.nil_append,List.cons_append]
  gi_wp2_with (simp only [key])
  go_ret
  exact ⟨rfl,rfl⟩
theorem N3 (ws : List Nat) (i : Nat) : Zi ws (i + 1) = Zi ws i ++ (Bits.bl (ws.getD i 0)).map fun k => ((i * 64 + k : Nat) : Int) := by
  simp [Zi,List.range_succ]
theorem WO (ws : List Nat) {i j : Nat} (h : i ≤ j) : Zi ws i <+: Zi ws j := by
  obtain ⟨d,rfl⟩ : ∃ d,j = i + d := ⟨j - i,by omega⟩
  induction d with
  | zero => exact List.prefix_refl _
  | succ d ih => exact (ih (by omega)).trans ⟨_,(N3 ws (i + d)).symm⟩
theorem ix0 (a b c d : Int) (W : World) : (Instr.index 24 (.agg #[.int .u64 a,.int .u64 b,.int .u64 c,.int .u64 d]) (.int .i64 0)).run Tryd.prog W = .ok (.int .u64 a) W := by simp [Instr.index,go_sem]
theorem ix1 (a b c d : Int) (W : World) : (Instr.index 24 (.agg #[.int .u64 a,.int .u64 b,.int .u64 c,.int .u64 d]) (.int .i64 1)).run Tryd.prog W = .ok (.int .u64 b) W := by simp [Instr.index,go_sem]
theorem ix2 (a b c d : Int) (W : World) : (Instr.index 24 (.agg #[.int .u64 a,.int .u64 b,.int .u64 c,.int .u64 d]) (.int .i64 2)).run Tryd.prog W = .ok (.int .u64 c) W := by simp [Instr.index,go_sem]
theorem ix3 (a b c d : Int) (W : World) : (Instr.index 24 (.agg #[.int .u64 a,.int .u64 b,.int .u64 c,.int .u64 d]) (.int .i64 3)).run Tryd.prog W = .ok (.int .u64 d) W := by simp [Instr.index,go_sem]
attribute [local go_sem] ix0 ix1 ix2 ix3
set_option maxRecDepth 100000 in
set_option maxHeartbeats 2000000 in
theorem Ql4 (F : Fence) (n : Nat) (h82 : F.fn 92) (h83 : F.fn 93) (hro : F.round = none) (hn : 1 ≤ n) (l Bn n₀ : Nat) (w0 w1 w2 w3 : Nat) (g0 : w0 < 2 ^ 64) (g1 : w1 < 2 ^ 64) (g2 : w2 < 2 ^ 64) (g3 : w3 < 2 ^ 64)
    (hg : 1 < n₀) (J Jx : List Int → World → Prop)
    (hY : ∀ pre x W,J pre W → pre.length < (Zi [w0,w1,w2,w3] 4).length → YieldAt F (n - 1) Tryd.prog l #[.int .i64 x] W fun e W' =>
      (e = .returned (.bool true) ∧ J (pre ++ [x]) W' ∧ Below n₀ W W') ∨ (e = .returned (.bool false) ∧ Jx (pre ++ [x]) W'))
    (W : World) (hB : W.heap[Bn]? = some (.cells #[.int .u64 w0,.int .u64 w1,.int .u64 w2,.int .u64 w3] 24 (0,0))) (hT : Kt W) (h0 : J [] W) :
    CallsIn F n Tryd.prog 92 #[.func (.yield l) #[] #[],.pointer (some ⟨Bn,0,none⟩)] W fun e W' => (∃ v,e = .returned v) ∧
      ((∃ ys,ys = Zi [w0,w1,w2,w3] 4 ∧ J ys W') ∨ (∃ pre,pre <+: Zi [w0,w1,w2,w3] 4 ∧ Jx pre W')) := by
  refine callsIn_of_wp Tryd.func92 rfl h82 ?_ hro
  simp only [Tryd.ntmps92,List.size_toArray,List.length_cons,List.length_nil,Nat.reduceAdd,Nat.reduceSub,Array.replicate_succ,Array.replicate_zero,List.push_toArray,List.append_toArray,List.nil_append,List.cons_append]
  have hc0 : W.cell? ⟨Bn,0,none⟩ = some (.int .u64 w0) := by simp [World.cell?,hB]
  have hc1 : W.cell? ⟨Bn,1,none⟩ = some (.int .u64 w1) := by simp [World.cell?,hB]
  have hc2 : W.cell? ⟨Bn,2,none⟩ = some (.int .u64 w2) := by simp [World.cell?,hB]
  have hc3 : W.cell? ⟨Bn,3,none⟩ = some (.int .u64 w3) := by simp [World.cell?,hB]
  gi_wp2
  gi_loopw [6] (fun i wr => ∃ (k : Nat) (z : Int),z = k ∧ k ≤ 4 ∧ i = .int .i64 z ∧ J (Zi [w0,w1,w2,w3] k) wr ∧ Below n₀ W wr) (fun i wr => 4 - (intOf i).toNat)
  case atStart =>
    exact ⟨0,0,rfl,by omega,rfl,h0,Below.refl _ _⟩
  case round =>
    obtain ⟨k,z,hz0,hk,rfl,hJ,hb⟩ := hrel
    by_cases h4 : k = 4
    · subst h4
      obtain rfl : z = 4 := hz0
      gi_wp2
      go_end0
      exact ⟨⟨_,rfl⟩,.inl ⟨_,rfl,hJ⟩⟩
    · have hk4 : k = 0 ∨ k = 1 ∨ k = 2 ∨ k = 3 := by omega
      have hTr : Kt wr := fun i hi => (hb.cell (p := ⟨1,i,none⟩) hg).trans (hT i hi)
      rcases hk4 with rfl | rfl | rfl | rfl
      · obtain rfl : z = 0 := hz0
        gi_wp2
        gi_loopw [4] (fun v wr => ∃ (m : Nat) (pre : List Int),v = .int .u64 m ∧ m < 2 ^ 64 ∧ J pre wr ∧ pre ++ (Bits.bl m).map (fun b => ((0 * 64 + b : Nat) : Int)) = Zi [w0,w1,w2,w3] (0 + 1) ∧ Below n₀ W wr) (fun v wr => (intOf v).toNat)
        case atStart => exact ⟨w0,Zi [w0,w1,w2,w3] 0,rfl,g0,hJ,(N3 [w0,w1,w2,w3] 0).symm,hb⟩
        case round =>
          obtain ⟨m,pre,rfl,hm,hJ,hp,hb⟩ := hrel
          have hTr : Kt wr := fun i hi => (hb.cell (p := ⟨1,i,none⟩) hg).trans (hT i hi)
          by_cases hz : m = 0
          · subst hz
            rw [Bits.bl_zero,List.map_nil,List.append_nil] at hp
            subst hp
            gi_wp2
            exact ⟨⟨1,1,rfl,by omega,rfl,hJ,hb⟩,by simp [intOf]⟩
          · obtain ⟨b,hb64,hlow,hbl,hlt⟩ := Bits.bl_step (by omega) hm
            have hz' : (m : Int) ≠ 0 := by omega
            have ex : (b : Int) = ((0 * 64 + b : Nat) : Int) := by omega
            rw [hbl,List.map_cons,← ex] at hp
            clear ex
            have hlen : pre.length < (Zi [w0,w1,w2,w3] 4).length := by
              have h1 := congrArg List.length hp
              have h2 : (Zi [w0,w1,w2,w3] (0 + 1)).length ≤ (Zi [w0,w1,w2,w3] 4).length := (WO [w0,w1,w2,w3] (by omega)).length_le
              simp only [List.length_append,List.length_cons] at h1
              omega
            obtain ⟨fn,tmps,assign,body,hy,hR⟩ := hY pre (b : Int) wr hJ hlen
            gi_wp2_with (gi_at_call 93; refine (P9 F (n - 1) h83 hro wr (by omega) hm hlow hb64 hTr).mono ?_; rintro e w' ⟨rfl,rfl⟩)
            refine hR.mono ?_
            rintro e W3 (⟨rfl,hJ3,hk3⟩ | ⟨rfl,hJx3⟩)
            · have ea : bits BinOp.and IntKind.u64 (m : Int) ((m : Int) - 1) = ((m &&& (m - 1) : Nat) : Int) := by
                rw [show ((m : Int) - 1) = ((m - 1 : Nat) : Int) by omega]
                exact LY hm (by omega)
              gi_wp2_with (simp only [ea])
              go_roundw
              case rel => exact ⟨m &&& (m - 1),pre ++ [(b : Int)],rfl,by omega,hJ3,by rw [List.append_assoc]; exact hp,hb.trans hk3⟩
              case measure => simp only [intOf]; omega
            · gi_wp2
              refine bodyPost_ret (results_none rfl _ _ _) rfl ?_
              refine ⟨⟨_,rfl⟩,.inr ⟨pre ++ [(b : Int)],?_,hJx3⟩⟩
              refine List.IsPrefix.trans ?_ (WO [w0,w1,w2,w3] (show 0 + 1 ≤ 4 by omega))
              exact ⟨_,by rw [List.append_assoc]; exact hp⟩
      · obtain rfl : z = 1 := hz0
        gi_wp2
        gi_loopw [4] (fun v wr => ∃ (m : Nat) (pre : List Int),v = .int .u64 m ∧ m < 2 ^ 64 ∧ J pre wr ∧ pre ++ (Bits.bl m).map (fun b => ((1 * 64 + b : Nat) : Int)) = Zi [w0,w1,w2,w3] (1 + 1) ∧ Below n₀ W wr) (fun v wr => (intOf v).toNat)
        case atStart => exact ⟨w1,Zi [w0,w1,w2,w3] 1,rfl,g1,hJ,(N3 [w0,w1,w2,w3] 1).symm,hb⟩
        case round =>
          obtain ⟨m,pre,rfl,hm,hJ,hp,hb⟩ := hrel
          have hTr : Kt wr := fun i hi => (hb.cell (p := ⟨1,i,none⟩) hg).trans (hT i hi)
          by_cases hz : m = 0
          · subst hz
            rw [Bits.bl_zero,List.map_nil,List.append_nil] at hp
            subst hp
            gi_wp2
            exact ⟨⟨2,2,rfl,by omega,rfl,hJ,hb⟩,by simp [intOf]⟩
          · obtain ⟨b,hb64,hlow,hbl,hlt⟩ := Bits.bl_step (by omega) hm
            have hz' : (m : Int) ≠ 0 := by omega
            have ex : (64 + (b : Int)) = ((1 * 64 + b : Nat) : Int) := by omega
            rw [hbl,List.map_cons,← ex] at hp
            clear ex
            have hlen : pre.length < (Zi [w0,w1,w2,w3] 4).length := by
              have h1 := congrArg List.length hp
              have h2 : (Zi [w0,w1,w2,w3] (1 + 1)).length ≤ (Zi [w0,w1,w2,w3] 4).length := (WO [w0,w1,w2,w3] (by omega)).length_le
              simp only [List.length_append,List.length_cons] at h1
              omega
            obtain ⟨fn,tmps,assign,body,hy,hR⟩ := hY pre (64 + (b : Int)) wr hJ hlen
            gi_wp2_with (gi_at_call 93; refine (P9 F (n - 1) h83 hro wr (by omega) hm hlow hb64 hTr).mono ?_; rintro e w' ⟨rfl,rfl⟩)
            refine hR.mono ?_
            rintro e W3 (⟨rfl,hJ3,hk3⟩ | ⟨rfl,hJx3⟩)
            · have ea : bits BinOp.and IntKind.u64 (m : Int) ((m : Int) - 1) = ((m &&& (m - 1) : Nat) : Int) := by
                rw [show ((m : Int) - 1) = ((m - 1 : Nat) : Int) by omega]
                exact LY hm (by omega)
              gi_wp2_with (simp only [ea])
              go_roundw
              case rel => exact ⟨m &&& (m - 1),pre ++ [(64 + (b : Int))],rfl,by omega,hJ3,by rw [List.append_assoc]; exact hp,hb.trans hk3⟩
              case measure => simp only [intOf]; omega
            · gi_wp2
              refine bodyPost_ret (results_none rfl _ _ _) rfl ?_
              refine ⟨⟨_,rfl⟩,.inr ⟨pre ++ [(64 + (b : Int))],?_,hJx3⟩⟩
              refine List.IsPrefix.trans ?_ (WO [w0,w1,w2,w3] (show 1 + 1 ≤ 4 by omega))
              exact ⟨_,by rw [List.append_assoc]; exact hp⟩
      · obtain rfl : z = 2 := hz0
        gi_wp2
        gi_loopw [4] (fun v wr => ∃ (m : Nat) (pre : List Int),v = .int .u64 m ∧ m < 2 ^ 64 ∧ J pre wr ∧ pre ++ (Bits.bl m).map (fun b => ((2 * 64 + b : Nat) : Int)) = Zi [w0,w1,w2,w3] (2 + 1) ∧ Below n₀ W wr) (fun v wr => (intOf v).toNat)
        case atStart => exact ⟨w2,Zi [w0,w1,w2,w3] 2,rfl,g2,hJ,(N3 [w0,w1,w2,w3] 2).symm,hb⟩
        case round =>
          obtain ⟨m,pre,rfl,hm,hJ,hp,hb⟩ := hrel
          have hTr : Kt wr := fun i hi => (hb.cell (p := ⟨1,i,none⟩) hg).trans (hT i hi)
          by_cases hz : m = 0
          · subst hz
            rw [Bits.bl_zero,List.map_nil,List.append_nil] at hp
            subst hp
            gi_wp2
            exact ⟨⟨3,3,rfl,by omega,rfl,hJ,hb⟩,by simp [intOf]⟩
          · obtain ⟨b,hb64,hlow,hbl,hlt⟩ := Bits.bl_step (by omega) hm
            have hz' : (m : Int) ≠ 0 := by omega
            have ex : (128 + (b : Int)) = ((2 * 64 + b : Nat) : Int) := by omega
            rw [hbl,List.map_cons,← ex] at hp
            clear ex
            have hlen : pre.length < (Zi [w0,w1,w2,w3] 4).length := by
              have h1 := congrArg List.length hp
              have h2 : (Zi [w0,w1,w2,w3] (2 + 1)).length ≤ (Zi [w0,w1,w2,w3] 4).length := (WO [w0,w1,w2,w3] (by omega)).length_le
              simp only [List.length_append,List.length_cons] at h1
              omega
            obtain ⟨fn,tmps,assign,body,hy,hR⟩ := hY pre (128 + (b : Int)) wr hJ hlen
            gi_wp2_with (gi_at_call 93; refine (P9 F (n - 1) h83 hro wr (by omega) hm hlow hb64 hTr).mono ?_; rintro e w' ⟨rfl,rfl⟩)
            refine hR.mono ?_
            rintro e W3 (⟨rfl,hJ3,hk3⟩ | ⟨rfl,hJx3⟩)
            · have ea : bits BinOp.and IntKind.u64 (m : Int) ((m : Int) - 1) = ((m &&& (m - 1) : Nat) : Int) := by
                rw [show ((m : Int) - 1) = ((m - 1 : Nat) : Int) by omega]
                exact LY hm (by omega)
              gi_wp2_with (simp only [ea])
              go_roundw
              case rel => exact ⟨m &&& (m - 1),pre ++ [(128 + (b : Int))],rfl,by omega,hJ3,by rw [List.append_assoc]; exact hp,hb.trans hk3⟩
              case measure => simp only [intOf]; omega
            · gi_wp2
              refine bodyPost_ret (results_none rfl _ _ _) rfl ?_
              refine ⟨⟨_,rfl⟩,.inr ⟨pre ++ [(128 + (b : Int))],?_,hJx3⟩⟩
              refine List.IsPrefix.trans ?_ (WO [w0,w1,w2,w3] (show 2 + 1 ≤ 4 by omega))
              exact ⟨_,by rw [List.append_assoc]; exact hp⟩
      · obtain rfl : z = 3 := hz0
        gi_wp2
        gi_loopw [4] (fun v wr => ∃ (m : Nat) (pre : List Int),v = .int .u64 m ∧ m < 2 ^ 64 ∧ J pre wr ∧ pre ++ (Bits.bl m).map (fun b => ((3 * 64 + b : Nat) : Int)) = Zi [w0,w1,w2,w3] (3 + 1) ∧ Below n₀ W wr) (fun v wr => (intOf v).toNat)
        case atStart => exact ⟨w3,Zi [w0,w1,w2,w3] 3,rfl,g3,hJ,(N3 [w0,w1,w2,w3] 3).symm,hb⟩
        case round =>
          obtain ⟨m,pre,rfl,hm,hJ,hp,hb⟩ := hrel
          have hTr : Kt wr := fun i hi => (hb.cell (p := ⟨1,i,none⟩) hg).trans (hT i hi)
          by_cases hz : m = 0
          · subst hz
            rw [Bits.bl_zero,List.map_nil,List.append_nil] at hp
            subst hp
            gi_wp2
            exact ⟨⟨4,4,rfl,by omega,rfl,hJ,hb⟩,by simp [intOf]⟩
          · obtain ⟨b,hb64,hlow,hbl,hlt⟩ := Bits.bl_step (by omega) hm
            have hz' : (m : Int) ≠ 0 := by omega
            have ex : (192 + (b : Int)) = ((3 * 64 + b : Nat) : Int) := by omega
            rw [hbl,List.map_cons,← ex] at hp
            clear ex
            have hlen : pre.length < (Zi [w0,w1,w2,w3] 4).length := by
              have h1 := congrArg List.length hp
              have h2 : (Zi [w0,w1,w2,w3] (3 + 1)).length ≤ (Zi [w0,w1,w2,w3] 4).length := (WO [w0,w1,w2,w3] (by omega)).length_le
              simp only [List.length_append,List.length_cons] at h1
              omega
            obtain ⟨fn,tmps,assign,body,hy,hR⟩ := hY pre (192 + (b : Int)) wr hJ hlen
            gi_wp2_with (gi_at_call 93; refine (P9 F (n - 1) h83 hro wr (by omega) hm hlow hb64 hTr).mono ?_; rintro e w' ⟨rfl,rfl⟩)
            refine hR.mono ?_
            rintro e W3 (⟨rfl,hJ3,hk3⟩ | ⟨rfl,hJx3⟩)
            · have ea : bits BinOp.and IntKind.u64 (m : Int) ((m : Int) - 1) = ((m &&& (m - 1) : Nat) : Int) := by
                rw [show ((m : Int) - 1) = ((m - 1 : Nat) : Int) by omega]
                exact LY hm (by omega)
              gi_wp2_with (simp only [ea])
              go_roundw
              case rel => exact ⟨m &&& (m - 1),pre ++ [(192 + (b : Int))],rfl,by omega,hJ3,by rw [List.append_assoc]; exact hp,hb.trans hk3⟩
              case measure => simp only [intOf]; omega
            · gi_wp2
              refine bodyPost_ret (results_none rfl _ _ _) rfl ?_
              refine ⟨⟨_,rfl⟩,.inr ⟨pre ++ [(192 + (b : Int))],?_,hJx3⟩⟩
              refine List.IsPrefix.trans ?_ (WO [w0,w1,w2,w3] (show 3 + 1 ≤ 4 by omega))
              exact ⟨_,by rw [List.append_assoc]; exact hp⟩
end Go.Proofs.YtdnmpaielmfiiaaDoor
end
