/- Fn3: a part of the proof that each law of this seat answers true at every input. No condition. -/
import Derived.Test.YtdnmpaielmfiiaaDoorHint
import Derived.KernelRfl
set_option linter.unusedVariables false
set_option linter.unusedSimpArgs false
set_option maxRecDepth 20000
section
namespace Go.Proofs.YtdnmpaielmfiiaaDoor
open Go Go.Ev
noncomputable section
def Q0 : Code := QO Tryd.f43
def ZW : Ks := [(5,[0,3,5,6,7,8]),(10,[0,3,5,6,7,8,9]),(13,[0,3,5,6,7,8]),(6,[0,3,5,6,7,8]),(16,[5])]
def ZV (base : Nat) : KC (Out × Qa) := QP Tryd.prog D false base 51 Tryd.f43.results.toList
def Z4 (base : Nat) (c : Code) (k : KC (Out × Qa)) (t : Ts) (H : Qa) (d : Ds) : Option (Out × Qa) := xC Tryd.prog base false ZW E 51 c k t H d
def NV (base : Nat) (t0 t3 t5 t6 t7 t8 : V) (H : Qa) : Option (Out × Qa) :=
Qt (fun t H d again => Z4 base (cAt [1,1,1,1,0,1,0,0] Q0) (Ql ZW (cAt [1,1,1,1,0,1,0,0] Q0) again ((Qe 0 ((Qg (fun _ t => Z4 base (cAt [1,1,1,1,1] Q0) (ZV base) (Qf ZW (cAt [1,1,1,1,1] Q0) t)) (ZV base)))))) t H d) [(0,t0),(3,t3),(5,t5),(6,t6),(7,t7),(8,t8)] H []
def QbS (base : Nat) (t0 t3 t5 t6 t7 t8 : V) (H : Qa) : Option (Out × Qa) :=
Z4 base (cAt [1,1,1,1,0,1,0,0,1,1] Q0) ((Ql ZW (cAt [1,1,1,1,0,1,0,0] Q0) (Qt (fun t H d again => Z4 base (cAt [1,1,1,1,0,1,0,0] Q0) (Ql ZW (cAt [1,1,1,1,0,1,0,0] Q0) again ((Qe 0 ((Qg (fun _ t => Z4 base (cAt [1,1,1,1,1] Q0) (ZV base) (Qf ZW (cAt [1,1,1,1,1] Q0) t)) (ZV base)))))) t H d)) ((Qe 0 ((Qg (fun _ t => Z4 base (cAt [1,1,1,1,1] Q0) (ZV base) (Qf ZW (cAt [1,1,1,1,1] Q0) t)) (ZV base))))))) [(0,t0),(3,t3),(5,t5),(6,t6),(7,t7),(8,t8)] H []
theorem E9 (base : Nat) (t0 t3 t5 t6 t7 t8 : V) (H : Qa) : QbS base t0 t3 t5 t6 t7 t8 H =
 bnd (Qb .add 6 t8 (.int .i64 1)) fun v25 =>
 NV base t0 t3 t5 t6 t7 v25 H := by kernel_rfl
def RB (base : Nat) (t0 t3 t5 t6 t7 t8 : V) (H : Qa) : Option (Out × Qa) :=
Z4 base (cAt [1,1,1,1,0,1,0,0,1,0,0,1,1,1] Q0) ((Qe 1 ((Qg (fun _ t => Z4 base (cAt [1,1,1,1,0,1,0,0,1,1] Q0) ((Ql ZW (cAt [1,1,1,1,0,1,0,0] Q0) (Qt (fun t H d again => Z4 base (cAt [1,1,1,1,0,1,0,0] Q0) (Ql ZW (cAt [1,1,1,1,0,1,0,0] Q0) again ((Qe 0 ((Qg (fun _ t => Z4 base (cAt [1,1,1,1,1] Q0) (ZV base) (Qf ZW (cAt [1,1,1,1,1] Q0) t)) (ZV base)))))) t H d)) ((Qe 0 ((Qg (fun _ t => Z4 base (cAt [1,1,1,1,1] Q0) (ZV base) (Qf ZW (cAt [1,1,1,1,1] Q0) t)) (ZV base))))))) (Qf ZW (cAt [1,1,1,1,0,1,0,0,1,1] Q0) t)) ((Ql ZW (cAt [1,1,1,1,0,1,0,0] Q0) (Qt (fun t H d again => Z4 base (cAt [1,1,1,1,0,1,0,0] Q0) (Ql ZW (cAt [1,1,1,1,0,1,0,0] Q0) again ((Qe 0 ((Qg (fun _ t => Z4 base (cAt [1,1,1,1,1] Q0) (ZV base) (Qf ZW (cAt [1,1,1,1,1] Q0) t)) (ZV base)))))) t H d)) ((Qe 0 ((Qg (fun _ t => Z4 base (cAt [1,1,1,1,1] Q0) (ZV base) (Qf ZW (cAt [1,1,1,1,1] Q0) t)) (ZV base))))))))))) [(0,t0),(3,t3),(5,t5),(6,t6),(7,t7),(8,t8)] H []
theorem Ab (base : Nat) (t0 t3 t5 t6 t7 t8 : V) (H : Qa) : RB base t0 t3 t5 t6 t7 t8 H =
 bnd (Qx 6 t0 t8) fun v20 =>
 bnd (Qc true 6 H v20) fun v21 =>
 bnd (Zq 6 1 (.agg [(.int .i64 0),(.int .u64 0),(.int .u64 0),(.int .u64 0),(.int .u64 0),(.vs [])]) [(0,v21)]) fun v22 =>
 beff (Z1 base 6 64 true t5 v22 H) fun v23 h24 =>
 QbS base t0 t3 v23 t6 t7 t8 h24 := by kernel_rfl
def PN (base : Nat) (t0 t3 t5 t6 t7 t8 t9 : V) (H : Qa) : Option (Out × Qa) :=
Z4 base (cAt [1,1,1,1,0,1,0,0,1,0,0,1,1] Q0) ((Qe 1 ((Qg (fun _ t => Z4 base (cAt [1,1,1,1,0,1,0,0,1,1] Q0) ((Ql ZW (cAt [1,1,1,1,0,1,0,0] Q0) (Qt (fun t H d again => Z4 base (cAt [1,1,1,1,0,1,0,0] Q0) (Ql ZW (cAt [1,1,1,1,0,1,0,0] Q0) again ((Qe 0 ((Qg (fun _ t => Z4 base (cAt [1,1,1,1,1] Q0) (ZV base) (Qf ZW (cAt [1,1,1,1,1] Q0) t)) (ZV base)))))) t H d)) ((Qe 0 ((Qg (fun _ t => Z4 base (cAt [1,1,1,1,1] Q0) (ZV base) (Qf ZW (cAt [1,1,1,1,1] Q0) t)) (ZV base))))))) (Qf ZW (cAt [1,1,1,1,0,1,0,0,1,1] Q0) t)) ((Ql ZW (cAt [1,1,1,1,0,1,0,0] Q0) (Qt (fun t H d again => Z4 base (cAt [1,1,1,1,0,1,0,0] Q0) (Ql ZW (cAt [1,1,1,1,0,1,0,0] Q0) again ((Qe 0 ((Qg (fun _ t => Z4 base (cAt [1,1,1,1,1] Q0) (ZV base) (Qf ZW (cAt [1,1,1,1,1] Q0) t)) (ZV base)))))) t H d)) ((Qe 0 ((Qg (fun _ t => Z4 base (cAt [1,1,1,1,1] Q0) (ZV base) (Qf ZW (cAt [1,1,1,1,1] Q0) t)) (ZV base))))))))))) [(0,t0),(3,t3),(5,t5),(6,t6),(7,t7),(8,t8),(9,t9)] H []
theorem LC (base : Nat) (t0 t3 t5 t6 t7 t8 t9 : V) (H : Qa) : PN base t0 t3 t5 t6 t7 t8 t9 H =
 bnd (Qb .gtr 6 t9 t6) fun v12 =>
 bnd (gua v12 true (QL t7) (some (.tup []))) fun v13 =>
 bnd (gua v12 true (oUn .not v13) (some (.tup []))) fun v14 =>
 bnd (QY v12 v14 (.bool false)) fun v15 =>
 cnd v15
 (bnd (Qc true 6 H t3) fun v16 =>
 bnd (Zq 6 1 (.agg [(.int .i64 0),(.int .u64 0),(.int .u64 0),(.int .u64 0),(.int .u64 0),(.vs [])]) [(0,v16)]) fun v17 =>
 beff (Z1 base 6 64 true t5 v17 H) fun v18 h19 =>
 RB base t0 t3 v18 t6 (.bool true) t8 h19)
 (RB base t0 t3 t5 t6 t7 t8 H) := by kernel_rfl
def Ac (base : Nat) (t5 : V) (H : Qa) : Option (Out × Qa) :=
Z4 base (cAt [1,1,1,1,1,1] Q0) (ZV base) [(5,t5)] H []
theorem QaD (base : Nat) (t5 : V) (H : Qa) : Ac base t5 H =
 rt false base t5 H := by kernel_rfl
theorem Bj (base : Nat) (t0 t3 t5 t6 t7 t8 : V) (H : Qa) : NV base t0 t3 t5 t6 t7 t8 H =
 bnd (QM t0) fun v5 =>
 bnd (Qb .lss 6 t8 v5) fun v6 =>
 cnd v6
 (bnd (Qx 6 t0 t8) fun v7 =>
 bnd (Qc true 6 H v7) fun v8 =>
 bcall (E K1 [v8] H) (fun v9 h10 =>
 bnd (Qb .eql 6 v9 t6) fun v11 =>
 cnd v11
 (PN base t0 t3 t5 t6 (.bool true) t8 v9 h10)
 (PN base t0 t3 t5 t6 t7 t8 v9 h10))
 (fun v9 h10 => pn false base v9 h10))
 (bnd (oUn .not t7) fun v26 =>
 cnd v26
 (bnd (Qc true 6 H t3) fun v27 =>
 bnd (Zq 6 1 (.agg [(.int .i64 0),(.int .u64 0),(.int .u64 0),(.int .u64 0),(.int .u64 0),(.vs [])]) [(0,v27)]) fun v28 =>
 beff (Z1 base 6 64 true t5 v28 H) fun v29 h30 =>
 Ac base v29 h30)
 (Ac base t5 H)) := (Za (cAt [1,1,1,1,0,1,0,0] Q0) ((Qe 0 ((Qg (fun _ t => Z4 base (cAt [1,1,1,1,1] Q0) (ZV base) (Qf ZW (cAt [1,1,1,1,1] Q0) t)) (ZV base))))) _ H []).trans (by kernel_rfl)
def QaS (base : Nat) (t0 t1 : V) (H : Qa) : Option (Out × Qa) := Z4 base Q0 (ZV base) [(0,t0),(1,t1)] H []
theorem QiO (base : Nat) (t0 t1 : V) (H : Qa) : QaS base t0 t1 H =
 beff (QD H t1) fun v0 h1 =>
 bnd (Qc true 6 h1 v0) fun v2 =>
 bcall (E K1 [v2] h1) (fun v3 h4 =>
 NV base t0 v0 .nils v3 (.bool false) (.int .i64 0) h4)
 (fun v3 h4 => pn false base v3 h4) := by kernel_rfl
theorem QjB (t0 t1 : V) (H : Qa) : E E6 [t0,t1] H = QaS H.length t0 t1 H := (QR Tryd.func43 (by kernel_rfl) (by kernel_rfl) (by kernel_rfl)).trans (by kernel_rfl)
def WK : Code := QO Tryd.f44
def Fj : Ks := [(2,[0,1,7,8])]
def Mt (base : Nat) : KC (Out × Qa) := QP Tryd.prog D false base 19 Tryd.f44.results.toList
def Gs (base : Nat) (c : Code) (k : KC (Out × Qa)) (t : Ts) (H : Qa) (d : Ds) : Option (Out × Qa) := xC Tryd.prog base true Fj E 19 c k t H d
def LD (base : Nat) (t0 t1 t7 t8 : V) (H : Qa) : Option (Out × Qa) :=
Qt (fun t H d again => Gs base (cAt [1,0,1,0,0] WK) (Ql Fj (cAt [1,0,1,0,0] WK) again ((Qe 0 ((Qg (fun _ t => Gs base (cAt [1,1] WK) (Mt base) (Qf Fj (cAt [1,1] WK) t)) (Mt base)))))) t H d) [(0,t0),(1,t1),(7,t7),(8,t8)] H []
theorem D9 (base : Nat) (t0 t1 t7 t8 : V) (H : Qa) : LD base t0 t1 t7 t8 H =
 bnd (Qb .lss 6 t8 t7) fun v1 =>
 cnd v1
 (bnd (Qx 6 t0 t8) fun v2 =>
 bnd (Qc true 6 H v2) fun v3 =>
 bcall (J6 E t1 [v3] H) (fun v4 h5 =>
 cnd v4
 (rt false base t8 h5)
 (bnd (Qb .add 6 t8 (.int .i64 1)) fun v6 =>
 LD base t0 t1 t7 v6 h5))
 (fun v4 h5 => pn false base v4 h5))
 (rt false base (.int .i64 (-1)) H) := (Za (cAt [1,0,1,0,0] WK) ((Qe 0 ((Qg (fun _ t => Gs base (cAt [1,1] WK) (Mt base) (Qf Fj (cAt [1,1] WK) t)) (Mt base))))) _ H []).trans (by kernel_rfl)
def Tf (base : Nat) (t0 t1 : V) (H : Qa) : Option (Out × Qa) := Gs base WK (Mt base) [(0,t0),(1,t1)] H []
theorem Ql7 (base : Nat) (t0 t1 : V) (H : Qa) : Tf base t0 t1 H =
 bnd (QM t0) fun v0 =>
 LD base t0 t1 v0 (.int .i64 0) H := by kernel_rfl
theorem QnR (t0 t1 : V) (H : Qa) : E Ef [t0,t1] H = Tf H.length t0 t1 H := (QR Tryd.func44 (by kernel_rfl) (by kernel_rfl) (by kernel_rfl)).trans (by kernel_rfl)
def YJ : Code := QO Tryd.f47
def VY : Ks := [(4,[0,2,3,10,11,12]),(8,[0,2,3,10,11,12]),(12,[0,2])]
def KF (base : Nat) : KC (Out × Qa) := QP Tryd.prog D false base 40 Tryd.f47.results.toList
def Wm (base : Nat) (c : Code) (k : KC (Out × Qa)) (t : Ts) (H : Qa) (d : Ds) : Option (Out × Qa) := xC Tryd.prog base false VY E 40 c k t H d
def Ux (base : Nat) (t0 t2 t3 t10 t11 t12 : V) (H : Qa) : Option (Out × Qa) :=
Qt (fun t H d again => Wm base (cAt [1,1,1,0,1,0,0] YJ) (Ql VY (cAt [1,1,1,0,1,0,0] YJ) again ((Qe 0 ((Qg (fun _ t => Wm base (cAt [1,1,1,1] YJ) (KF base) (Qf VY (cAt [1,1,1,1] YJ) t)) (KF base)))))) t H d) [(0,t0),(2,t2),(3,t3),(10,t10),(11,t11),(12,t12)] H []
def PI (base : Nat) (t0 t2 t3 t10 t11 t12 : V) (H : Qa) : Option (Out × Qa) :=
Wm base (cAt [1,1,1,0,1,0,0,1,1,1] YJ) ((Ql VY (cAt [1,1,1,0,1,0,0] YJ) (Qt (fun t H d again => Wm base (cAt [1,1,1,0,1,0,0] YJ) (Ql VY (cAt [1,1,1,0,1,0,0] YJ) again ((Qe 0 ((Qg (fun _ t => Wm base (cAt [1,1,1,1] YJ) (KF base) (Qf VY (cAt [1,1,1,1] YJ) t)) (KF base)))))) t H d)) ((Qe 0 ((Qg (fun _ t => Wm base (cAt [1,1,1,1] YJ) (KF base) (Qf VY (cAt [1,1,1,1] YJ) t)) (KF base))))))) [(0,t0),(2,t2),(3,t3),(10,t10),(11,t11),(12,t12)] H []
theorem QoU (base : Nat) (t0 t2 t3 t10 t11 t12 : V) (H : Qa) : PI base t0 t2 t3 t10 t11 t12 H =
 bnd (Qb .add 6 t12 (.int .i64 1)) fun v28 =>
 Ux base t0 t2 t3 t10 t11 v28 H := by kernel_rfl
def MS (base : Nat) (t0 t2 : V) (H : Qa) : Option (Out × Qa) :=
Wm base (cAt [1,1,1,1,1,1] YJ) (KF base) [(0,t0),(2,t2)] H []
theorem QaK (base : Nat) (t0 t2 : V) (H : Qa) : MS base t0 t2 H =
 bcall (E PP [t0,(.fn Uw [])] H) (fun v42 h43 =>
 bcall (E Fe [t0,(.fn Bv [])] h43) (fun v44 h45 =>
 bcall (E Fp [v44,(.int .i64 4),(.int .i64 0)] h45) (fun v46 h47 =>
 beff (Qs base 6 h47 t2 v46) fun v48 h49 =>
 bnd (Qc true 6 h49 t2) fun v50 =>
 rt false base v50 h49)
 (fun v46 h47 => pn false base v46 h47))
 (fun v44 h45 => pn false base v44 h45))
 (fun v42 h43 => pn false base v42 h43) := by kernel_rfl
theorem F1 (base : Nat) (t0 t2 t3 t10 t11 t12 : V) (H : Qa) : Ux base t0 t2 t3 t10 t11 t12 H =
 bnd (Qb .lss 6 t12 t11) fun v11 =>
 cnd v11
 (bnd (Qx 6 t10 t12) fun v12 =>
 bnd (Qc true 6 H v12) fun v13 =>
 beff (QD H (.agg [(.int .i64 0),(.int .u64 0),(.int .u64 0),(.int .u64 0),(.int .u64 0),.nils])) fun v14 h15 =>
 beff (Qs base 6 h15 v14 v13) fun v16 h17 =>
 bnd (Qq v14 0) fun v18 =>
 bnd (Qc false 1 h17 v18) fun v19 =>
 bnd (Qb .eql 6 v19 (.int .i64 2)) fun v20 =>
 cnd v20
 (bnd (Qc true 4 h17 t3) fun v21 =>
 bnd (Qq v14 1) fun v22 =>
 bnd (Qc true 4 h17 v22) fun v23 =>
 bcall (E D5 [v21,v23] h17) (fun v24 h25 =>
 beff (Qs base 4 h25 t3 v24) fun v26 h27 =>
 PI base t0 t2 t3 t10 t11 t12 h27)
 (fun v24 h25 => pn false base v24 h25))
 (PI base t0 t2 t3 t10 t11 t12 h17))
 (bcall (E BI [(.int .i64 2)] H) (fun v29 h30 =>
 bcall (E UU [t0,v29] h30) (fun v31 h32 =>
 bnd (Qc true 4 h32 t3) fun v33 =>
 bnd (NT [(.int .u64 0),(.int .u64 0),(.int .u64 0),(.int .u64 0)] 1 []) fun v34 =>
 bnd (Qb .neq 46 v33 v34) fun v35 =>
 cnd v35
 (bnd (Qc true 4 h32 t3) fun v36 =>
 bcall (E AO [v36] h32) (fun v37 h38 =>
 bnd (Zq 6 1 (.agg [(.int .i64 0),(.int .u64 0),(.int .u64 0),(.int .u64 0),(.int .u64 0),(.vs [])]) [(0,v37)]) fun v39 =>
 bcall (E Bt [v31,(.int .i64 0),v39] h38) (fun v40 h41 =>
 MS base v40 t2 h41)
 (fun v40 h41 => pn false base v40 h41))
 (fun v37 h38 => pn false base v37 h38))
 (MS base v31 t2 h32))
 (fun v31 h32 => pn false base v31 h32))
 (fun v29 h30 => pn false base v29 h30)) := (Za (cAt [1,1,1,0,1,0,0] YJ) ((Qe 0 ((Qg (fun _ t => Wm base (cAt [1,1,1,1] YJ) (KF base) (Qf VY (cAt [1,1,1,1] YJ) t)) (KF base))))) _ H []).trans (by kernel_rfl)
def QcP (base : Nat) (t0 : V) (H : Qa) : Option (Out × Qa) := Wm base YJ (KF base) [(0,t0)] H []
theorem Qq4 (base : Nat) (t0 : V) (H : Qa) : QcP base t0 H =
 beff (QD H (.agg [(.int .i64 0),(.int .u64 0),(.int .u64 0),(.int .u64 0),(.int .u64 0),.nils])) fun v0 h1 =>
 bcall (E LR [t0,(.int .i64 4)] h1) (fun v2 h3 =>
 bcall (E BI [(.int .i64 0)] h3) (fun v4 h5 =>
 bcall (E UU [v2,v4] h5) (fun v6 h7 =>
 beff (QD h7 (.agg [(.int .u64 0),(.int .u64 0),(.int .u64 0),(.int .u64 0)])) fun v8 h9 =>
 bnd (QM v6) fun v10 =>
 Ux base v6 v0 v8 v6 v10 (.int .i64 0) h9)
 (fun v6 h7 => pn false base v6 h7))
 (fun v4 h5 => pn false base v4 h5))
 (fun v2 h3 => pn false base v2 h3) := by kernel_rfl
theorem QhX (t0 : V) (H : Qa) : E Fl [t0] H = QcP H.length t0 H := (QR Tryd.func47 (by kernel_rfl) (by kernel_rfl) (by kernel_rfl)).trans (by kernel_rfl)
def Y7 : Code := QO Tryd.f48
def Vf : Ks := [(2,[1,4,7,8,9]),(7,[1,4,7,8,9])]
def Wu (base : Nat) : KC (Out × Qa) := QP Tryd.prog D true base 27 Tryd.f48.results.toList
def Vr (base : Nat) (c : Code) (k : KC (Out × Qa)) (t : Ts) (H : Qa) (d : Ds) : Option (Out × Qa) := xC Tryd.prog base false Vf E 27 c k t H d
def Eb (base : Nat) (t1 t4 t7 t8 t9 : V) (H : Qa) : Option (Out × Qa) :=
Qt (fun t H d again => Vr base (cAt [1,0,1,0,0] Y7) (Ql Vf (cAt [1,0,1,0,0] Y7) again ((Qe 0 ((Qg (fun _ t => Vr base (cAt [1,1] Y7) (Wu base) (Qf Vf (cAt [1,1] Y7) t)) (Wu base)))))) t H d) [(1,t1),(4,t4),(7,t7),(8,t8),(9,t9)] H []
def R4 (base : Nat) (t1 t4 t7 t8 t9 : V) (H : Qa) : Option (Out × Qa) :=
Vr base (cAt [1,0,1,0,0,1,1,1] Y7) ((Ql Vf (cAt [1,0,1,0,0] Y7) (Qt (fun t H d again => Vr base (cAt [1,0,1,0,0] Y7) (Ql Vf (cAt [1,0,1,0,0] Y7) again ((Qe 0 ((Qg (fun _ t => Vr base (cAt [1,1] Y7) (Wu base) (Qf Vf (cAt [1,1] Y7) t)) (Wu base)))))) t H d)) ((Qe 0 ((Qg (fun _ t => Vr base (cAt [1,1] Y7) (Wu base) (Qf Vf (cAt [1,1] Y7) t)) (Wu base))))))) [(1,t1),(4,t4),(7,t7),(8,t8),(9,t9)] H []
theorem Qhw (base : Nat) (t1 t4 t7 t8 t9 : V) (H : Qa) : R4 base t1 t4 t7 t8 t9 H =
 bnd (Qb .add 6 t9 (.int .i64 1)) fun v15 =>
 Eb base t1 t4 t7 t8 v15 H := by kernel_rfl
theorem Qmk (base : Nat) (t1 t4 t7 t8 t9 : V) (H : Qa) : Eb base t1 t4 t7 t8 t9 H =
 bnd (Qb .lss 6 t9 t8) fun v1 =>
 cnd v1
 (bnd (Qx 6 t7 t9) fun v2 =>
 bnd (Qc true 6 H v2) fun v3 =>
 beff (QD H (.agg [(.int .i64 0),(.int .u64 0),(.int .u64 0),(.int .u64 0),(.int .u64 0),.nils])) fun v4 h5 =>
 beff (Qs base 6 h5 v4 v3) fun v6 h7 =>
 bnd (Qq v4 0) fun v8 =>
 bnd (Qc false 1 h7 v8) fun v9 =>
 bnd (Qb .eql 6 v9 t1) fun v10 =>
 cnd v10
 (bnd (Qq v4 5) fun v11 =>
 bnd (Qc false 1 h7 v11) fun v12 =>
 beff (Z1 base 6 64 true t4 v12 h7) fun v13 h14 =>
 R4 base t1 v13 t7 t8 t9 h14)
 (bnd (Qc true 6 h7 v4) fun v16 =>
 bnd (Zq 6 1 (.agg [(.int .i64 0),(.int .u64 0),(.int .u64 0),(.int .u64 0),(.int .u64 0),(.vs [])]) [(0,v16)]) fun v17 =>
 beff (Z1 base 6 64 true t4 v17 h7) fun v18 h19 =>
 R4 base t1 v18 t7 t8 t9 h19))
 (rt true base t4 H) := (Za (cAt [1,0,1,0,0] Y7) ((Qe 0 ((Qg (fun _ t => Vr base (cAt [1,1] Y7) (Wu base) (Qf Vf (cAt [1,1] Y7) t)) (Wu base))))) _ H []).trans (by kernel_rfl)
def Qf4 (base : Nat) (t0 t1 : V) (H : Qa) : Option (Out × Qa) := Vr base Y7 (Wu base) [(0,t0),(1,t1)] H []
theorem QoR (base : Nat) (t0 t1 : V) (H : Qa) : Qf4 base t0 t1 H =
 bnd (QM t0) fun v0 =>
 Eb base t1 .nils t0 v0 (.int .i64 0) H := by kernel_rfl
theorem Qml (t0 t1 : V) (H : Qa) : E LR [t0,t1] H = Qf4 H.length t0 t1 H := (QR Tryd.func48 (by kernel_rfl) (by kernel_rfl) (by kernel_rfl)).trans (by kernel_rfl)
def Qlx : Code := QO Tryd.f49
def QmM : Ks := []
def Qj4 (base : Nat) : KC (Out × Qa) := QP Tryd.prog D false base 4 Tryd.f49.results.toList
def Qnh (base : Nat) (c : Code) (k : KC (Out × Qa)) (t : Ts) (H : Qa) (d : Ds) : Option (Out × Qa) := xC Tryd.prog base false QmM E 4 c k t H d
def TC (base : Nat) (t0 : V) (H : Qa) : Option (Out × Qa) := Qnh base Qlx (Qj4 base) [(0,t0)] H []
theorem Qqm (base : Nat) (t0 : V) (H : Qa) : TC base t0 H =
 beff (QD H t0) fun v0 h1 =>
 bnd (Gz Jk [v0]) fun v2 =>
 rt false base v2 h1 := by kernel_rfl
theorem QqR (t0 : V) (H : Qa) : E BI [t0] H = TC H.length t0 H := (QR Tryd.func49 (by kernel_rfl) (by kernel_rfl) (by kernel_rfl)).trans (by kernel_rfl)
def Qon : Code := QO Tryd.f50
def Qmp : Ks := []
def Qip (base : Nat) : KC (Out × Qa) := QP Tryd.prog D false base 21 Tryd.f50.results.toList
def QlK (base : Nat) (c : Code) (k : KC (Out × Qa)) (t : Ts) (H : Qa) (d : Ds) : Option (Out × Qa) := xC Tryd.prog base false Qmp E 21 c k t H d
def QaQ (base : Nat) (t0 t1 t2 : V) (H : Qa) : Option (Out × Qa) := QlK base Qon (Qip base) [(0,t0),(1,t1),(2,t2)] H []
theorem Qlw (base : Nat) (t0 t1 t2 : V) (H : Qa) : QaQ base t0 t1 t2 H =
 beff (QD H (.agg [(.int .i64 0),(.int .u64 0),(.int .u64 0),(.int .u64 0),(.int .u64 0),.nils])) fun v0 h1 =>
 bnd (QM t0) fun v2 =>
 bnd (Qb .eql 6 v2 (.int .i64 0)) fun v3 =>
 cnd v3
 (bnd (Zj [(.int .i64 0),(.int .u64 0),(.int .u64 0),(.int .u64 0),(.int .u64 0),.nils] [(0,1),(1,4),(5,1)] [(0,t2)]) fun v4 =>
 beff (Qs base 6 h1 v0 v4) fun v5 h6 =>
 bnd (Qc true 6 h6 v0) fun v7 =>
 rt false base v7 h6)
 (bnd (Qb .eql 6 v2 (.int .i64 1)) fun v8 =>
 cnd v8
 (bnd (Qx 6 t0 (.int .i64 0)) fun v9 =>
 bnd (Qc true 6 h1 v9) fun v10 =>
 beff (Qs base 6 h1 v0 v10) fun v11 h12 =>
 bnd (Qc true 6 h12 v0) fun v13 =>
 rt false base v13 h12)
 (bnd (Zj [(.int .i64 0),(.int .u64 0),(.int .u64 0),(.int .u64 0),(.int .u64 0),.nils] [(0,1),(1,4),(5,1)] [(0,t1),(2,t0)]) fun v14 =>
 beff (Qs base 6 h1 v0 v14) fun v15 h16 =>
 bnd (Qc true 6 h16 v0) fun v17 =>
 rt false base v17 h16)) := by kernel_rfl
theorem QhP (t0 t1 t2 : V) (H : Qa) : E Fp [t0,t1,t2] H = QaQ H.length t0 t1 t2 H := (QR Tryd.func50 (by kernel_rfl) (by kernel_rfl) (by kernel_rfl)).trans (by kernel_rfl)
def YN : Code := QO Tryd.f51
def VA : Ks := [(5,[0,1,5,6]),(6,[0,1,5,6])]
def Wt (base : Nat) : KC (Out × Qa) := QP Tryd.prog D true base 42 Tryd.f51.results.toList
def VF (base : Nat) (c : Code) (k : KC (Out × Qa)) (t : Ts) (H : Qa) (d : Ds) : Option (Out × Qa) := xC Tryd.prog base true VA E 42 c k t H d
def RS (base : Nat) (t0 t1 t5 t6 : V) (H : Qa) : Option (Out × Qa) :=
Qt (fun t H d again => VF base (cAt [1,1,1,0,1,0,0] YN) (Ql VA (cAt [1,1,1,0,1,0,0] YN) again ((Qe 0 ((Qg (fun _ t => VF base (cAt [1,1,1,1] YN) (Wt base) (Qf VA (cAt [1,1,1,1] YN) t)) (Wt base)))))) t H d) [(0,t0),(1,t1),(5,t5),(6,t6)] H []
def Gi (base : Nat) (t0 t1 t5 t6 : V) (H : Qa) : Option (Out × Qa) :=
VF base (cAt [1,1,1,0,1,0,0,1,1] YN) ((Ql VA (cAt [1,1,1,0,1,0,0] YN) (Qt (fun t H d again => VF base (cAt [1,1,1,0,1,0,0] YN) (Ql VA (cAt [1,1,1,0,1,0,0] YN) again ((Qe 0 ((Qg (fun _ t => VF base (cAt [1,1,1,1] YN) (Wt base) (Qf VA (cAt [1,1,1,1] YN) t)) (Wt base)))))) t H d)) ((Qe 0 ((Qg (fun _ t => VF base (cAt [1,1,1,1] YN) (Wt base) (Qf VA (cAt [1,1,1,1] YN) t)) (Wt base))))))) [(0,t0),(1,t1),(5,t5),(6,t6)] H []
theorem QoB (base : Nat) (t0 t1 t5 t6 : V) (H : Qa) : Gi base t0 t1 t5 t6 H =
 bnd (Qb .add 6 t6 (.int .i64 1)) fun v21 =>
 RS base t0 t1 t5 v21 H := by kernel_rfl
theorem QqN (base : Nat) (t0 t1 t5 t6 : V) (H : Qa) : RS base t0 t1 t5 t6 H =
 bnd (QM t0) fun v4 =>
 bnd (Qb .lss 6 t6 v4) fun v5 =>
 cnd v5
 (bnd (Qx 6 t0 t6) fun v6 =>
 bnd (Qc true 6 H v6) fun v7 =>
 beff (QD H (.agg [(.int .i64 0),(.int .u64 0),(.int .u64 0),(.int .u64 0),(.int .u64 0),.nils])) fun v8 h9 =>
 beff (Qs base 6 h9 v8 v7) fun v10 h11 =>
 bnd (Qc true 6 h11 v8) fun v12 =>
 bcall (J6 E t1 [v12] h11) (fun v13 h14 =>
 bnd (oUn .not v13) fun v15 =>
 cnd v15
 (bnd (Qc true 6 h14 v8) fun v16 =>
 bnd (Qx 6 t0 t5) fun v17 =>
 beff (Qs base 6 h14 v17 v16) fun v18 h19 =>
 bnd (Qb .add 6 t5 (.int .i64 1)) fun v20 =>
 Gi base t0 t1 v20 t6 h19)
 (Gi base t0 t1 t5 t6 h14))
 (fun v13 h14 => pn true base v13 h14))
 (bnd (JO 6 t0 (some t5) none none) fun v22 =>
 beff (N7 base 6 [(.int .i64 0),(.int .u64 0),(.int .u64 0),(.int .u64 0),(.int .u64 0),.nils] v22 H) fun v23 h24 =>
 bnd (JO 6 t0 none (some t5) none) fun v25 =>
 rt true base v25 h24) := (Za (cAt [1,1,1,0,1,0,0] YN) ((Qe 0 ((Qg (fun _ t => VF base (cAt [1,1,1,1] YN) (Wt base) (Qf VA (cAt [1,1,1,1] YN) t)) (Wt base))))) _ H []).trans (by kernel_rfl)
def Tu (base : Nat) (t0 t1 : V) (H : Qa) : Option (Out × Qa) := VF base YN (Wt base) [(0,t0),(1,t1)] H []
theorem Eo (base : Nat) (t0 t1 : V) (H : Qa) : Tu base t0 t1 H =
 bcall (E Ef [t0,t1] H) (fun v0 h1 =>
 bnd (Qb .eql 6 v0 (.int .i64 (-1))) fun v2 =>
 cnd v2
 (rt true base t0 h1)
 (bnd (Qb .add 6 v0 (.int .i64 1)) fun v3 =>
 RS base t0 t1 v0 v3 h1))
 (fun v0 h1 => pn true base v0 h1) := by kernel_rfl
theorem DK (t0 t1 : V) (H : Qa) : E UU [t0,t1] H = Tu H.length t0 t1 H := (QR Tryd.func51 (by kernel_rfl) (by kernel_rfl) (by kernel_rfl)).trans (by kernel_rfl)
def Qoc : Code := QO Tryd.f52
def QlY : Ks := []
def Qkn (base : Nat) : KC (Out × Qa) := QP Tryd.prog D false base 43 Tryd.f52.results.toList
def QlQ (base : Nat) (c : Code) (k : KC (Out × Qa)) (t : Ts) (H : Qa) (d : Ds) : Option (Out × Qa) := xC Tryd.prog base false QlY E 43 c k t H d
def Qe8 (base : Nat) (t0 t1 : V) (H : Qa) : Option (Out × Qa) := QlQ base Qoc (Qkn base) [(0,t0),(1,t1)] H []
theorem Qo0 (base : Nat) (t0 t1 : V) (H : Qa) : Qe8 base t0 t1 H =
 bnd (Kg t0) fun v0 =>
 bnd (Qq v0 1) fun v1 =>
 bnd (Qc false 1 H v1) fun v2 =>
 bnd (Qb .add 6 v2 (.int .i64 1)) fun v3 =>
 bnd (Kg t0) fun v4 =>
 bnd (Qq v4 1) fun v5 =>
 beff (Qs base 1 H v5 v3) fun v6 h7 =>
 bnd (Kg t0) fun v8 =>
 bnd (Qq v8 1) fun v9 =>
 bnd (Qc false 1 h7 v9) fun v10 =>
 bnd (Kg t0) fun v11 =>
 bnd (Qq v11 0) fun v12 =>
 bnd (Qc false 1 h7 v12) fun v13 =>
 bnd (QM v13) fun v14 =>
 bnd (Qb .gtr 6 v10 v14) fun v15 =>
 bnd (gua v15 false (QL t0) (some (.tup []))) fun v16 =>
 bnd (gua v15 false (Kg v16) (some (.tup []))) fun v17 =>
 bnd (gua v15 false (Qq v17 1) (some (.tup []))) fun v18 =>
 bnd (gua v15 false (Qc false 1 h7 v18) (some (.tup []))) fun v19 =>
 bnd (gua v15 false (Qb .gtr 6 v19 (.int .i64 150)) (some (.tup []))) fun v20 =>
 bnd (QY v15 (.bool true) v20) fun v21 =>
 cnd v21
 (rt false base (.int .i64 0) h7)
 (bnd (Kg t0) fun v22 =>
 bnd (Qq v22 0) fun v23 =>
 bnd (Qc false 1 h7 v23) fun v24 =>
 bnd (Kg t0) fun v25 =>
 bnd (Qq v25 1) fun v26 =>
 bnd (Qc false 1 h7 v26) fun v27 =>
 bnd (Qb .sub 6 v27 (.int .i64 1)) fun v28 =>
 bnd (Qx 1 v24 v28) fun v29 =>
 bnd (Qc false 1 h7 v29) fun v30 =>
 bnd (Yc .i64 v30) fun v31 =>
 bnd (Qb .rem 6 v31 t1) fun v32 =>
 rt false base v32 h7) := by kernel_rfl
theorem Qlz (t0 t1 : V) (H : Qa) : E VB [t0,t1] H = Qe8 H.length t0 t1 H := (QR Tryd.func52 (by kernel_rfl) (by kernel_rfl) (by kernel_rfl)).trans (by kernel_rfl)
def Qig : Code := QO Tryd.f53
def Ql2 : Ks := []
def QqW (base : Nat) : KC (Out × Qa) := QP Tryd.prog D false base 9 Tryd.f53.results.toList
def Qpv (base : Nat) (c : Code) (k : KC (Out × Qa)) (t : Ts) (H : Qa) (d : Ds) : Option (Out × Qa) := xC Tryd.prog base false Ql2 E 9 c k t H d
def QbO (base : Nat) (t0 t1 : V) (H : Qa) : Option (Out × Qa) := Qpv base Qig (QqW base) [(0,t0),(1,t1)] H []
theorem Qjw (base : Nat) (t0 t1 : V) (H : Qa) : QbO base t0 t1 H =
 beff (QD H (.agg [(.int .i64 0),(.int .u64 0),(.int .u64 0),(.int .u64 0),(.int .u64 0),.nils])) fun v0 h1 =>
 bcall (E BH [t0,t1] h1) (fun v2 h3 =>
 bnd (Zj [(.int .i64 0),(.int .u64 0),(.int .u64 0),(.int .u64 0),(.int .u64 0),.nils] [(0,1),(1,4),(5,1)] [(0,(.int .i64 2)),(1,v2)]) fun v4 =>
 beff (Qs base 6 h3 v0 v4) fun v5 h6 =>
 bnd (Qc true 6 h6 v0) fun v7 =>
 rt false base v7 h6)
 (fun v2 h3 => pn false base v2 h3) := by kernel_rfl
theorem QpL (t0 t1 : V) (H : Qa) : E EG [t0,t1] H = QbO H.length t0 t1 H := (QR Tryd.func53 (by kernel_rfl) (by kernel_rfl) (by kernel_rfl)).trans (by kernel_rfl)
def V1 : Code := QO Tryd.f54
def El : Ks := [(3,[0,1,2,7,8])]
def Nx (base : Nat) : KC (Out × Qa) := QP Tryd.prog D false base 21 Tryd.f54.results.toList
def Ph (base : Nat) (c : Code) (k : KC (Out × Qa)) (t : Ts) (H : Qa) (d : Ds) : Option (Out × Qa) := xC Tryd.prog base false El E 21 c k t H d
def P2 (base : Nat) (t0 t1 t2 t7 t8 : V) (H : Qa) : Option (Out × Qa) :=
Qt (fun t H d again => Ph base (cAt [1,1,0,1,0,0] V1) (Ql El (cAt [1,1,0,1,0,0] V1) again ((Qe 0 ((Qg (fun _ t => Ph base (cAt [1,1,1] V1) (Nx base) (Qf El (cAt [1,1,1] V1) t)) (Nx base)))))) t H d) [(0,t0),(1,t1),(2,t2),(7,t7),(8,t8)] H []
theorem Qb6 (base : Nat) (t0 t1 t2 t7 t8 : V) (H : Qa) : P2 base t0 t1 t2 t7 t8 H =
 bnd (Qb .lss 6 t8 t1) fun v0 =>
 cnd v0
 (bcall (E NU [t0,t2] H) (fun v1 h2 =>
 bnd (Zq 6 1 (.agg [(.int .i64 0),(.int .u64 0),(.int .u64 0),(.int .u64 0),(.int .u64 0),(.vs [])]) [(0,v1)]) fun v3 =>
 beff (Z1 base 6 64 true t7 v3 h2) fun v4 h5 =>
 bnd (Qb .add 6 t8 (.int .i64 1)) fun v6 =>
 P2 base t0 t1 t2 v4 v6 h5)
 (fun v1 h2 => pn false base v1 h2))
 (rt false base t7 H) := (Za (cAt [1,1,0,1,0,0] V1) ((Qe 0 ((Qg (fun _ t => Ph base (cAt [1,1,1] V1) (Nx base) (Qf El (cAt [1,1,1] V1) t)) (Nx base))))) _ H []).trans (by kernel_rfl)
def QfC (base : Nat) (t0 t1 t2 : V) (H : Qa) : Option (Out × Qa) := Ph base V1 (Nx base) [(0,t0),(1,t1),(2,t2)] H []
theorem QjE (base : Nat) (t0 t1 t2 : V) (H : Qa) : QfC base t0 t1 t2 H =
 P2 base t0 t1 t2 .nils (.int .i64 0) H := by kernel_rfl
theorem QlO (t0 t1 t2 : V) (H : Qa) : E FJ [t0,t1,t2] H = QfC H.length t0 t1 t2 H := (QR Tryd.func54 (by kernel_rfl) (by kernel_rfl) (by kernel_rfl)).trans (by kernel_rfl)
def YS : Code := QO Tryd.f55
def Vq : Ks := [(3,[2,3,4,5,6,7,12,13,14]),(4,[2,3,4,5,6,7,12,13,14])]
def Ww (base : Nat) : KC (Out × Qa) := QP Tryd.prog D false base 69 Tryd.f55.results.toList
def WY (base : Nat) (c : Code) (k : KC (Out × Qa)) (t : Ts) (H : Qa) (d : Ds) : Option (Out × Qa) := xC Tryd.prog base false Vq E 69 c k t H d
def BA (base : Nat) (t2 t3 t4 t5 t6 t7 t12 t13 t14 : V) (H : Qa) : Option (Out × Qa) :=
Qt (fun t H d again => WY base (cAt [1,1,0,1,0,0] YS) (Ql Vq (cAt [1,1,0,1,0,0] YS) again ((Qe 0 ((Qg (fun _ t => WY base (cAt [1,1,1] YS) (Ww base) (Qf Vq (cAt [1,1,1] YS) t)) (Ww base)))))) t H d) [(2,t2),(3,t3),(4,t4),(5,t5),(6,t6),(7,t7),(12,t12),(13,t13),(14,t14)] H []
def NN (base : Nat) (t2 t3 t4 t5 t6 t7 t12 t13 t14 : V) (H : Qa) : Option (Out × Qa) :=
WY base (cAt [1,1,0,1,0,0,1,1] YS) ((Ql Vq (cAt [1,1,0,1,0,0] YS) (Qt (fun t H d again => WY base (cAt [1,1,0,1,0,0] YS) (Ql Vq (cAt [1,1,0,1,0,0] YS) again ((Qe 0 ((Qg (fun _ t => WY base (cAt [1,1,1] YS) (Ww base) (Qf Vq (cAt [1,1,1] YS) t)) (Ww base)))))) t H d)) ((Qe 0 ((Qg (fun _ t => WY base (cAt [1,1,1] YS) (Ww base) (Qf Vq (cAt [1,1,1] YS) t)) (Ww base))))))) [(2,t2),(3,t3),(4,t4),(5,t5),(6,t6),(7,t7),(12,t12),(13,t13),(14,t14)] H []
theorem XS (base : Nat) (t2 t3 t4 t5 t6 t7 t12 t13 t14 : V) (H : Qa) : NN base t2 t3 t4 t5 t6 t7 t12 t13 t14 H =
 bnd (Qb .add 6 t14 (.int .i64 1)) fun v52 =>
 BA base t2 t3 t4 t5 t6 t7 t12 t13 v52 H := by kernel_rfl
theorem QmJ (base : Nat) (t2 t3 t4 t5 t6 t7 t12 t13 t14 : V) (H : Qa) : BA base t2 t3 t4 t5 t6 t7 t12 t13 t14 H =
 bnd (Qb .lss 6 t14 (.int .i64 256)) fun v8 =>
 cnd v8
 (bnd (Qc true 4 H t6) fun v9 =>
 bcall (E Vy [v9,t14] H) (fun v10 h11 =>
 bnd (bnd (Qc true 4 h11 t7) fun v12 => sch (sam (Qc true 4 H t7) v12) (
 some v12)) fun v12 =>
 bcall (E Vy [v12,t14] h11) (fun v13 h14 =>
 bnd (oUn .not v10) fun v15 =>
 bnd (gua v15 true (QL v13) (some (.tup []))) fun v16 =>
 bnd (gua v15 true (oUn .not v16) (some (.tup []))) fun v17 =>
 bnd (QY v15 v17 (.bool false)) fun v18 =>
 bnd (gua v18 true (QL t2) (some (.tup []))) fun v19 =>
 bnd (QY v18 v19 (.bool false)) fun v20 =>
 bnd (gua v20 false (QL v10) (some (.tup []))) fun v21 =>
 bnd (gua v20 false (QL v21) (some (.tup []))) fun v22 =>
 bnd (gua v22 true (QL v13) (some (.tup []))) fun v23 =>
 bnd (gua v22 true (oUn .not v23) (some (.tup []))) fun v24 =>
 bnd (gua v20 false (QY v22 v24 (.bool false)) (some (.tup []))) fun v25 =>
 bnd (gua v20 false (QL v25) (some (.tup []))) fun v26 =>
 bnd (gua v26 true (QL t3) (some (.tup []))) fun v27 =>
 bnd (gua v20 false (QY v26 v27 (.bool false)) (some (.tup []))) fun v28 =>
 bnd (QY v20 (.bool true) v28) fun v29 =>
 bnd (gua v29 false (QL v10) (some (.tup []))) fun v30 =>
 bnd (gua v29 false (oUn .not v30) (some (.tup []))) fun v31 =>
 bnd (gua v29 false (QL v31) (some (.tup []))) fun v32 =>
 bnd (gua v32 true (QL v13) (some (.tup []))) fun v33 =>
 bnd (gua v29 false (QY v32 v33 (.bool false)) (some (.tup []))) fun v34 =>
 bnd (gua v29 false (QL v34) (some (.tup []))) fun v35 =>
 bnd (gua v35 true (QL t4) (some (.tup []))) fun v36 =>
 bnd (gua v29 false (QY v35 v36 (.bool false)) (some (.tup []))) fun v37 =>
 bnd (QY v29 (.bool true) v37) fun v38 =>
 bnd (gua v38 false (QL v10) (some (.tup []))) fun v39 =>
 bnd (gua v38 false (QL v39) (some (.tup []))) fun v40 =>
 bnd (gua v40 true (QL v13) (some (.tup []))) fun v41 =>
 bnd (gua v38 false (QY v40 v41 (.bool false)) (some (.tup []))) fun v42 =>
 bnd (gua v38 false (QL v42) (some (.tup []))) fun v43 =>
 bnd (gua v43 true (QL t5) (some (.tup []))) fun v44 =>
 bnd (gua v38 false (QY v43 v44 (.bool false)) (some (.tup []))) fun v45 =>
 bnd (QY v38 (.bool true) v45) fun v46 =>
 cnd v46
 (bnd (Qc true 4 h14 t13) fun v47 =>
 bcall (E Eg [v47,t14] h14) (fun v48 h49 =>
 beff (Qs base 4 h49 t13 v48) fun v50 h51 =>
 NN base t2 t3 t4 t5 t6 t7 t12 t13 t14 h51)
 (fun v48 h49 => pn false base v48 h49))
 (NN base t2 t3 t4 t5 t6 t7 t12 t13 t14 h14))
 (fun v13 h14 => pn false base v13 h14))
 (fun v10 h11 => sch (tlb (Qc true 4 H t7) fun v53 => tlb (QL t14) fun v54 => true) (pn false base v10 h11)))
 (bnd (Qc true 4 H t13) fun v55 =>
 beff (Qs base 4 H t12 v55) fun v56 h57 =>
 bnd (Qc true 4 h57 t12) fun v58 =>
 rt false base v58 h57) := (Za (cAt [1,1,0,1,0,0] YS) ((Qe 0 ((Qg (fun _ t => WY base (cAt [1,1,1] YS) (Ww base) (Qf Vq (cAt [1,1,1] YS) t)) (Ww base))))) _ H []).trans (by kernel_rfl)
def TI (base : Nat) (t0 t1 t2 t3 t4 t5 : V) (H : Qa) : Option (Out × Qa) := WY base YS (Ww base) [(0,t0),(1,t1),(2,t2),(3,t3),(4,t4),(5,t5)] H []
theorem QlH (base : Nat) (t0 t1 t2 t3 t4 t5 : V) (H : Qa) : TI base t0 t1 t2 t3 t4 t5 H =
 beff (QD H t0) fun v0 h1 =>
 beff (QD h1 t1) fun v2 h3 =>
 beff (QD h3 (.agg [(.int .u64 0),(.int .u64 0),(.int .u64 0),(.int .u64 0)])) fun v4 h5 =>
 beff (QD h5 (.agg [(.int .u64 0),(.int .u64 0),(.int .u64 0),(.int .u64 0)])) fun v6 h7 =>
 BA base t2 t3 t4 t5 v0 v2 v4 v6 (.int .i64 0) h7 := by kernel_rfl
theorem Qot (t0 t1 t2 t3 t4 t5 : V) (H : Qa) : E Cv [t0,t1,t2,t3,t4,t5] H = TI H.length t0 t1 t2 t3 t4 t5 H := (QR Tryd.func55 (by kernel_rfl) (by kernel_rfl) (by kernel_rfl)).trans (by kernel_rfl)
def Qp : Code := QO Tryd.f56
def QT : Ks := [(10,[3,4,5]),(14,[3,4,5]),(11,[3,4,5]),(18,[1,3,6]),(23,[1,3,7]),(27,[1,3,7]),(24,[1,3,7])]
def QS (base : Nat) : KC (Out × Qa) := QP Tryd.prog D false base 100 Tryd.f56.results.toList
def QV (base : Nat) (c : Code) (k : KC (Out × Qa)) (t : Ts) (H : Qa) (d : Ds) : Option (Out × Qa) := xC Tryd.prog base false QT E 100 c k t H d
def Pw (base : Nat) (t3 t4 t5 : V) (H : Qa) : Option (Out × Qa) :=
Qt (fun t H d again => QV base (cAt [1,1,0,1,0,1,1,1,1,1,0,1,0,1,0,0] Qp) (Ql QT (cAt [1,1,0,1,0,1,1,1,1,1,0,1,0,1,0,0] Qp) again ((Qe 1 ((Qg (fun _ t => QV base (cAt [1,1,0,1,0,1,1,1,1,1,0,1,1] Qp) ((Qe 0 ((Qg (fun _ t => QV base (cAt [1,1,1] Qp) (QS base) (Qf QT (cAt [1,1,1] Qp) t)) (QS base))))) (Qf QT (cAt [1,1,0,1,0,1,1,1,1,1,0,1,1] Qp) t)) ((Qe 0 ((Qg (fun _ t => QV base (cAt [1,1,1] Qp) (QS base) (Qf QT (cAt [1,1,1] Qp) t)) (QS base)))))))))) t H d) [(3,t3),(4,t4),(5,t5)] H []
def Tl (base : Nat) (t3 t4 t5 : V) (H : Qa) : Option (Out × Qa) :=
QV base (cAt [1,1,0,1,0,1,1,1,1,1,0,1,0,1,0,0,1,1] Qp) ((Ql QT (cAt [1,1,0,1,0,1,1,1,1,1,0,1,0,1,0,0] Qp) (Qt (fun t H d again => QV base (cAt [1,1,0,1,0,1,1,1,1,1,0,1,0,1,0,0] Qp) (Ql QT (cAt [1,1,0,1,0,1,1,1,1,1,0,1,0,1,0,0] Qp) again ((Qe 1 ((Qg (fun _ t => QV base (cAt [1,1,0,1,0,1,1,1,1,1,0,1,1] Qp) ((Qe 0 ((Qg (fun _ t => QV base (cAt [1,1,1] Qp) (QS base) (Qf QT (cAt [1,1,1] Qp) t)) (QS base))))) (Qf QT (cAt [1,1,0,1,0,1,1,1,1,1,0,1,1] Qp) t)) ((Qe 0 ((Qg (fun _ t => QV base (cAt [1,1,1] Qp) (QS base) (Qf QT (cAt [1,1,1] Qp) t)) (QS base)))))))))) t H d)) ((Qe 1 ((Qg (fun _ t => QV base (cAt [1,1,0,1,0,1,1,1,1,1,0,1,1] Qp) ((Qe 0 ((Qg (fun _ t => QV base (cAt [1,1,1] Qp) (QS base) (Qf QT (cAt [1,1,1] Qp) t)) (QS base))))) (Qf QT (cAt [1,1,0,1,0,1,1,1,1,1,0,1,1] Qp) t)) ((Qe 0 ((Qg (fun _ t => QV base (cAt [1,1,1] Qp) (QS base) (Qf QT (cAt [1,1,1] Qp) t)) (QS base))))))))))) [(3,t3),(4,t4),(5,t5)] H []
theorem QnV (base : Nat) (t3 t4 t5 : V) (H : Qa) : Tl base t3 t4 t5 H =
 bnd (Qb .add 6 t5 (.int .i64 1)) fun v28 =>
 Pw base t3 t4 v28 H := by kernel_rfl
def Pd (base : Nat) (t3 t4 t5 : V) (H : Qa) : Option (Out × Qa) :=
QV base (cAt [1,1,0,1,0,1,1,1,1,1,0,1,0,1,0,0,1,0,0,1] Qp) ((Qe 2 ((Qg (fun _ t => QV base (cAt [1,1,0,1,0,1,1,1,1,1,0,1,0,1,0,0,1,1] Qp) ((Ql QT (cAt [1,1,0,1,0,1,1,1,1,1,0,1,0,1,0,0] Qp) (Qt (fun t H d again => QV base (cAt [1,1,0,1,0,1,1,1,1,1,0,1,0,1,0,0] Qp) (Ql QT (cAt [1,1,0,1,0,1,1,1,1,1,0,1,0,1,0,0] Qp) again ((Qe 1 ((Qg (fun _ t => QV base (cAt [1,1,0,1,0,1,1,1,1,1,0,1,1] Qp) ((Qe 0 ((Qg (fun _ t => QV base (cAt [1,1,1] Qp) (QS base) (Qf QT (cAt [1,1,1] Qp) t)) (QS base))))) (Qf QT (cAt [1,1,0,1,0,1,1,1,1,1,0,1,1] Qp) t)) ((Qe 0 ((Qg (fun _ t => QV base (cAt [1,1,1] Qp) (QS base) (Qf QT (cAt [1,1,1] Qp) t)) (QS base)))))))))) t H d)) ((Qe 1 ((Qg (fun _ t => QV base (cAt [1,1,0,1,0,1,1,1,1,1,0,1,1] Qp) ((Qe 0 ((Qg (fun _ t => QV base (cAt [1,1,1] Qp) (QS base) (Qf QT (cAt [1,1,1] Qp) t)) (QS base))))) (Qf QT (cAt [1,1,0,1,0,1,1,1,1,1,0,1,1] Qp) t)) ((Qe 0 ((Qg (fun _ t => QV base (cAt [1,1,1] Qp) (QS base) (Qf QT (cAt [1,1,1] Qp) t)) (QS base))))))))))) (Qf QT (cAt [1,1,0,1,0,1,1,1,1,1,0,1,0,1,0,0,1,1] Qp) t)) ((Ql QT (cAt [1,1,0,1,0,1,1,1,1,1,0,1,0,1,0,0] Qp) (Qt (fun t H d again => QV base (cAt [1,1,0,1,0,1,1,1,1,1,0,1,0,1,0,0] Qp) (Ql QT (cAt [1,1,0,1,0,1,1,1,1,1,0,1,0,1,0,0] Qp) again ((Qe 1 ((Qg (fun _ t => QV base (cAt [1,1,0,1,0,1,1,1,1,1,0,1,1] Qp) ((Qe 0 ((Qg (fun _ t => QV base (cAt [1,1,1] Qp) (QS base) (Qf QT (cAt [1,1,1] Qp) t)) (QS base))))) (Qf QT (cAt [1,1,0,1,0,1,1,1,1,1,0,1,1] Qp) t)) ((Qe 0 ((Qg (fun _ t => QV base (cAt [1,1,1] Qp) (QS base) (Qf QT (cAt [1,1,1] Qp) t)) (QS base)))))))))) t H d)) ((Qe 1 ((Qg (fun _ t => QV base (cAt [1,1,0,1,0,1,1,1,1,1,0,1,1] Qp) ((Qe 0 ((Qg (fun _ t => QV base (cAt [1,1,1] Qp) (QS base) (Qf QT (cAt [1,1,1] Qp) t)) (QS base))))) (Qf QT (cAt [1,1,0,1,0,1,1,1,1,1,0,1,1] Qp) t)) ((Qe 0 ((Qg (fun _ t => QV base (cAt [1,1,1] Qp) (QS base) (Qf QT (cAt [1,1,1] Qp) t)) (QS base))))))))))))))) [(3,t3),(4,t4),(5,t5)] H []
theorem QlL (base : Nat) (t3 t4 t5 : V) (H : Qa) : Pd base t3 t4 t5 H =
 bnd (Qx 2 t4 t5) fun v15 =>
 bnd (Qq v15 0) fun v16 =>
 bnd (Qc false 1 H v16) fun v17 =>
 bcall (E BF [v17] H) (fun v18 h19 =>
 bnd (Qb .add 6 t3 v18) fun v20 =>
 bnd (Qb .add 6 v20 (.str [45])) fun v21 =>
 bnd (Qx 2 t4 t5) fun v22 =>
 bnd (Qq v22 1) fun v23 =>
 bnd (bnd (Qc false 1 h19 v23) fun v24 => sch (sam (Qc false 1 H v23) v24) (
 some v24)) fun v24 =>
 bcall (E BF [v24] h19) (fun v25 h26 =>
 bnd (Qb .add 6 v21 v25) fun v27 =>
 Tl base v27 t4 t5 h26)
 (fun v25 h26 => pn false base v25 h26))
 (fun v18 h19 => sch (tlb (QL t4) fun v29 => tlb (QL t5) fun v30 => tlb (Qx 2 v29 v30) fun v31 => tlb (Qq v31 1) fun v32 => tlb (Qc false 1 H v32) fun v33 => true) (pn false base v18 h19)) := by kernel_rfl
theorem Qmc (base : Nat) (t3 t4 t5 : V) (H : Qa) : Pw base t3 t4 t5 H =
 bnd (QM t4) fun v11 =>
 bnd (Qb .lss 6 t5 v11) fun v12 =>
 cnd v12
 (bnd (Qb .gtr 6 t5 (.int .i64 0)) fun v13 =>
 cnd v13
 (bnd (Qb .add 6 t3 (.str [44])) fun v14 =>
 Pd base v14 t4 t5 H)
 (Pd base t3 t4 t5 H))
 (bnd (Qb .add 6 (.str [91]) t3) fun v34 =>
 bnd (Qb .add 6 v34 (.str [93])) fun v35 =>
 rt false base v35 H) := (Za (cAt [1,1,0,1,0,1,1,1,1,1,0,1,0,1,0,0] Qp) ((Qe 1 ((Qg (fun _ t => QV base (cAt [1,1,0,1,0,1,1,1,1,1,0,1,1] Qp) ((Qe 0 ((Qg (fun _ t => QV base (cAt [1,1,1] Qp) (QS base) (Qf QT (cAt [1,1,1] Qp) t)) (QS base))))) (Qf QT (cAt [1,1,0,1,0,1,1,1,1,1,0,1,1] Qp) t)) ((Qe 0 ((Qg (fun _ t => QV base (cAt [1,1,1] Qp) (QS base) (Qf QT (cAt [1,1,1] Qp) t)) (QS base))))))))) _ H []).trans (by kernel_rfl)
def L9 (base : Nat) (t1 t3 t6 : V) (H : Qa) : Option (Out × Qa) :=
Qt (fun t H d again => QV base (cAt [1,1,0,1,0,1,1,1,1,1,1,1,0,0,1,0,0] Qp) (Ql QT (cAt [1,1,0,1,0,1,1,1,1,1,1,1,0,0,1,0,0] Qp) again ((Qe 3 ((Qg (fun _ t => QV base (cAt [1,1,0,1,0,1,1,1,1,1,1,1,0,1] Qp) ((Qe 0 ((Qg (fun _ t => QV base (cAt [1,1,1] Qp) (QS base) (Qf QT (cAt [1,1,1] Qp) t)) (QS base))))) (Qf QT (cAt [1,1,0,1,0,1,1,1,1,1,1,1,0,1] Qp) t)) ((Qe 0 ((Qg (fun _ t => QV base (cAt [1,1,1] Qp) (QS base) (Qf QT (cAt [1,1,1] Qp) t)) (QS base)))))))))) t H d) [(1,t1),(3,t3),(6,t6)] H []
theorem QnS (base : Nat) (t1 t3 t6 : V) (H : Qa) : L9 base t1 t3 t6 H =
 bnd (Qq t1 5) fun v37 =>
 bnd (Qc false 1 H v37) fun v38 =>
 bnd (QM v38) fun v39 =>
 bnd (Qb .lss 6 t6 v39) fun v40 =>
 cnd v40
 (bnd (Qq t1 5) fun v41 =>
 bnd (Qc false 1 H v41) fun v42 =>
 bnd (Qx 6 v42 t6) fun v43 =>
 bnd (Qc true 6 H v43) fun v44 =>
 bcall (E K1 [v44] H) (fun v45 h46 =>
 bnd (Qb .add 6 t3 v45) fun v47 =>
 bnd (Qb .add 6 t6 (.int .i64 1)) fun v48 =>
 L9 base t1 v47 v48 h46)
 (fun v45 h46 => pn false base v45 h46))
 (bnd (Qb .add 6 t3 (.str [42])) fun v49 =>
 rt false base v49 H) := (Za (cAt [1,1,0,1,0,1,1,1,1,1,1,1,0,0,1,0,0] Qp) ((Qe 3 ((Qg (fun _ t => QV base (cAt [1,1,0,1,0,1,1,1,1,1,1,1,0,1] Qp) ((Qe 0 ((Qg (fun _ t => QV base (cAt [1,1,1] Qp) (QS base) (Qf QT (cAt [1,1,1] Qp) t)) (QS base))))) (Qf QT (cAt [1,1,0,1,0,1,1,1,1,1,1,1,0,1] Qp) t)) ((Qe 0 ((Qg (fun _ t => QV base (cAt [1,1,1] Qp) (QS base) (Qf QT (cAt [1,1,1] Qp) t)) (QS base))))))))) _ H []).trans (by kernel_rfl)
def LG (base : Nat) (t1 t3 t7 : V) (H : Qa) : Option (Out × Qa) :=
Qt (fun t H d again => QV base (cAt [1,1,1,0,1,0,0] Qp) (Ql QT (cAt [1,1,1,0,1,0,0] Qp) again ((Qe 5 ((Qg (fun _ t => QV base (cAt [1,1,1,1] Qp) (QS base) (Qf QT (cAt [1,1,1,1] Qp) t)) (QS base)))))) t H d) [(1,t1),(3,t3),(7,t7)] H []
def QgY (base : Nat) (t1 t3 t7 : V) (H : Qa) : Option (Out × Qa) :=
QV base (cAt [1,1,1,0,1,0,0,1,1] Qp) ((Ql QT (cAt [1,1,1,0,1,0,0] Qp) (Qt (fun t H d again => QV base (cAt [1,1,1,0,1,0,0] Qp) (Ql QT (cAt [1,1,1,0,1,0,0] Qp) again ((Qe 5 ((Qg (fun _ t => QV base (cAt [1,1,1,1] Qp) (QS base) (Qf QT (cAt [1,1,1,1] Qp) t)) (QS base)))))) t H d)) ((Qe 5 ((Qg (fun _ t => QV base (cAt [1,1,1,1] Qp) (QS base) (Qf QT (cAt [1,1,1,1] Qp) t)) (QS base))))))) [(1,t1),(3,t3),(7,t7)] H []
theorem QoJ (base : Nat) (t1 t3 t7 : V) (H : Qa) : QgY base t1 t3 t7 H =
 bnd (Qb .add 6 t7 (.int .i64 1)) fun v67 =>
 LG base t1 t3 v67 H := by kernel_rfl
def PV (base : Nat) (t1 t3 t7 : V) (H : Qa) : Option (Out × Qa) :=
QV base (cAt [1,1,1,0,1,0,0,1,0,0,1] Qp) ((Qe 6 ((Qg (fun _ t => QV base (cAt [1,1,1,0,1,0,0,1,1] Qp) ((Ql QT (cAt [1,1,1,0,1,0,0] Qp) (Qt (fun t H d again => QV base (cAt [1,1,1,0,1,0,0] Qp) (Ql QT (cAt [1,1,1,0,1,0,0] Qp) again ((Qe 5 ((Qg (fun _ t => QV base (cAt [1,1,1,1] Qp) (QS base) (Qf QT (cAt [1,1,1,1] Qp) t)) (QS base)))))) t H d)) ((Qe 5 ((Qg (fun _ t => QV base (cAt [1,1,1,1] Qp) (QS base) (Qf QT (cAt [1,1,1,1] Qp) t)) (QS base))))))) (Qf QT (cAt [1,1,1,0,1,0,0,1,1] Qp) t)) ((Ql QT (cAt [1,1,1,0,1,0,0] Qp) (Qt (fun t H d again => QV base (cAt [1,1,1,0,1,0,0] Qp) (Ql QT (cAt [1,1,1,0,1,0,0] Qp) again ((Qe 5 ((Qg (fun _ t => QV base (cAt [1,1,1,1] Qp) (QS base) (Qf QT (cAt [1,1,1,1] Qp) t)) (QS base)))))) t H d)) ((Qe 5 ((Qg (fun _ t => QV base (cAt [1,1,1,1] Qp) (QS base) (Qf QT (cAt [1,1,1,1] Qp) t)) (QS base))))))))))) [(1,t1),(3,t3),(7,t7)] H []
theorem Qmd (base : Nat) (t1 t3 t7 : V) (H : Qa) : PV base t1 t3 t7 H =
 bnd (Qq t1 5) fun v60 =>
 bnd (Qc false 1 H v60) fun v61 =>
 bnd (Qx 6 v61 t7) fun v62 =>
 bnd (Qc true 6 H v62) fun v63 =>
 bcall (E K1 [v63] H) (fun v64 h65 =>
 bnd (Qb .add 6 t3 v64) fun v66 =>
 QgY base t1 v66 t7 h65)
 (fun v64 h65 => pn false base v64 h65) := by kernel_rfl
theorem QmY (base : Nat) (t1 t3 t7 : V) (H : Qa) : LG base t1 t3 t7 H =
 bnd (Qq t1 5) fun v50 =>
 bnd (Qc false 1 H v50) fun v51 =>
 bnd (QM v51) fun v52 =>
 bnd (Qb .lss 6 t7 v52) fun v53 =>
 cnd v53
 (bnd (Qb .gtr 6 t7 (.int .i64 0)) fun v54 =>
 bnd (gua v54 true (Qq t1 0) (some (.tup []))) fun v55 =>
 bnd (gua v54 true (Qc false 1 H v55) (some (.tup []))) fun v56 =>
 bnd (gua v54 true (Qb .neq 6 v56 (.int .i64 3)) (some (.tup []))) fun v57 =>
 bnd (QY v54 v57 (.bool false)) fun v58 =>
 cnd v58
 (bnd (Qb .add 6 t3 (.str [124])) fun v59 =>
 PV base t1 v59 t7 H)
 (PV base t1 t3 t7 H))
 (bnd (Qq t1 0) fun v68 =>
 bnd (Qc false 1 H v68) fun v69 =>
 bnd (Qb .eql 6 v69 (.int .i64 3)) fun v70 =>
 cnd v70
 (bnd (Qb .add 6 (.str [40]) t3) fun v71 =>
 bnd (Qb .add 6 v71 (.str [41])) fun v72 =>
 rt false base v72 H)
 (bnd (Qb .add 6 (.str [123]) t3) fun v73 =>
 bnd (Qb .add 6 v73 (.str [125])) fun v74 =>
 rt false base v74 H)) := (Za (cAt [1,1,1,0,1,0,0] Qp) ((Qe 5 ((Qg (fun _ t => QV base (cAt [1,1,1,1] Qp) (QS base) (Qf QT (cAt [1,1,1,1] Qp) t)) (QS base))))) _ H []).trans (by kernel_rfl)
def QdR (base : Nat) (t0 : V) (H : Qa) : Option (Out × Qa) := QV base Qp (QS base) [(0,t0)] H []
theorem QnG (base : Nat) (t0 : V) (H : Qa) : QdR base t0 H =
 beff (QD H t0) fun v0 h1 =>
 bnd (Qq v0 0) fun v2 =>
 bnd (Qc false 1 h1 v2) fun v3 =>
 bnd (Qb .eql 6 v3 (.int .i64 0)) fun v4 =>
 cnd v4
 (rt false base (.str [48]) h1)
 (bnd (Qb .eql 6 v3 (.int .i64 1)) fun v5 =>
 cnd v5
 (rt false base (.str [49]) h1)
 (bnd (Qb .eql 6 v3 (.int .i64 2)) fun v6 =>
 cnd v6
 (bnd (Qq v0 1) fun v7 =>
 bnd (Qc true 4 h1 v7) fun v8 =>
 bcall (E DO [v8] h1) (fun v9 h10 =>
 Pw base (.str []) v9 (.int .i64 0) h10)
 (fun v9 h10 => pn false base v9 h10))
 (bnd (Qb .eql 6 v3 (.int .i64 5)) fun v36 =>
 cnd v36
 (L9 base v0 (.str []) (.int .i64 0) h1)
 (LG base v0 (.str []) (.int .i64 0) h1)))) := by kernel_rfl
theorem QkR (t0 : V) (H : Qa) : E K1 [t0] H = QdR H.length t0 H := (QR Tryd.func56 (by kernel_rfl) (by kernel_rfl) (by kernel_rfl)).trans (by kernel_rfl)
def WM : Code := QO Tryd.f59
def Fo : Ks := [(2,[2,4,7,8])]
def NG (base : Nat) : KC (Out × Qa) := QP Tryd.prog D false base 20 Tryd.f59.results.toList
def LV (base : Nat) (c : Code) (k : KC (Out × Qa)) (t : Ts) (H : Qa) (d : Ds) : Option (Out × Qa) := xC Tryd.prog base false Fo E 20 c k t H d
def AH (base : Nat) (t2 t4 t7 t8 : V) (H : Qa) : Option (Out × Qa) :=
Qt (fun t H d again => LV base (cAt [1,0,1,0,0] WM) (Ql Fo (cAt [1,0,1,0,0] WM) again ((Qe 0 ((Qg (fun _ t => LV base (cAt [1,1] WM) (NG base) (Qf Fo (cAt [1,1] WM) t)) (NG base)))))) t H d) [(2,t2),(4,t4),(7,t7),(8,t8)] H []
theorem MH (base : Nat) (t2 t4 t7 t8 : V) (H : Qa) : AH base t2 t4 t7 t8 H =
 bnd (Qb .lss 6 t8 (.int .i64 4)) fun v7 =>
 cnd v7
 (bnd (Ee 4 false 1 t7 t8) fun v8 =>
 bnd (Wl 4 1 t2 t8) fun v9 =>
 bnd (Qc false 1 H v9) fun v10 =>
 bnd (Qb .or 6 v10 v8) fun v11 =>
 bnd (Wl 4 1 t2 t8) fun v12 =>
 beff (Qs base 1 H v12 v11) fun v13 h14 =>
 bnd (Qb .add 6 t8 (.int .i64 1)) fun v15 =>
 AH base t2 t4 t7 v15 h14)
 (bnd (Qc true 4 H t2) fun v16 =>
 beff (Qs base 4 H t4 v16) fun v17 h18 =>
 bnd (Qc true 4 h18 t4) fun v19 =>
 rt false base v19 h18) := (Za (cAt [1,0,1,0,0] WM) ((Qe 0 ((Qg (fun _ t => LV base (cAt [1,1] WM) (NG base) (Qf Fo (cAt [1,1] WM) t)) (NG base))))) _ H []).trans (by kernel_rfl)
def XY (base : Nat) (t0 t1 : V) (H : Qa) : Option (Out × Qa) := LV base WM (NG base) [(0,t0),(1,t1)] H []
theorem Qm2 (base : Nat) (t0 t1 : V) (H : Qa) : XY base t0 t1 H =
 beff (QD H t0) fun v0 h1 =>
 beff (QD h1 t1) fun v2 h3 =>
 beff (QD h3 (.agg [(.int .u64 0),(.int .u64 0),(.int .u64 0),(.int .u64 0)])) fun v4 h5 =>
 bnd (Qc true 4 h5 v2) fun v6 =>
 AH base v0 v4 v6 (.int .i64 0) h5 := by kernel_rfl
theorem Qmj (t0 t1 : V) (H : Qa) : E D5 [t0,t1] H = XY H.length t0 t1 H := (QR Tryd.func59 (by kernel_rfl) (by kernel_rfl) (by kernel_rfl)).trans (by kernel_rfl)
end
end Go.Proofs.YtdnmpaielmfiiaaDoor
end
