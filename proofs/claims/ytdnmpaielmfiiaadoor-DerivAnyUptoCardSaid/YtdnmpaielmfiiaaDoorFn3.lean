/- Fn3: a part of the proof that each law of this seat answers true at every input. No condition. -/
import Derived.Test.YtdnmpaielmfiiaaDoorHint
import Derived.KernelRfl
set_option linter.unusedVariables false
set_option linter.unusedSimpArgs false
set_option maxRecDepth 20000
section
namespace Go.Proofs.YtdnmpaielmfiiaaDoor
open Go Go.Ev
noncomputable section
def Q1 : Code := QO Tryd.f43
def ZX : Ks := [(5,[0,3,5,6,7,8]),(10,[0,3,5,6,7,8,9]),(13,[0,3,5,6,7,8]),(6,[0,3,5,6,7,8]),(16,[5])]
def ZW (base : Nat) : KC (Out × Qa) := QN Tryd.prog D false base 51 Tryd.f43.results.toList
def Z5 (base : Nat) (c : Code) (k : KC (Out × Qa)) (t : Ts) (H : Qa) (d : Ds) : Option (Out × Qa) := xC Tryd.prog base false ZX E 51 c k t H d
def Mv (base : Nat) (t0 t3 t5 t6 t7 t8 : V) (H : Qa) : Option (Out × Qa) :=
Qt (fun t H d again => Z5 base (cAt [1,1,1,1,0,1,0,0] Q1) (Ql ZX (cAt [1,1,1,1,0,1,0,0] Q1) again ((Qe 0 ((Qg (fun _ t => Z5 base (cAt [1,1,1,1,1] Q1) (ZW base) (Qf ZX (cAt [1,1,1,1,1] Q1) t)) (ZW base)))))) t H d) [(0,t0),(3,t3),(5,t5),(6,t6),(7,t7),(8,t8)] H []
def T7 (base : Nat) (t0 t3 t5 t6 t7 t8 : V) (H : Qa) : Option (Out × Qa) :=
Z5 base (cAt [1,1,1,1,0,1,0,0,1,1] Q1) ((Ql ZX (cAt [1,1,1,1,0,1,0,0] Q1) (Qt (fun t H d again => Z5 base (cAt [1,1,1,1,0,1,0,0] Q1) (Ql ZX (cAt [1,1,1,1,0,1,0,0] Q1) again ((Qe 0 ((Qg (fun _ t => Z5 base (cAt [1,1,1,1,1] Q1) (ZW base) (Qf ZX (cAt [1,1,1,1,1] Q1) t)) (ZW base)))))) t H d)) ((Qe 0 ((Qg (fun _ t => Z5 base (cAt [1,1,1,1,1] Q1) (ZW base) (Qf ZX (cAt [1,1,1,1,1] Q1) t)) (ZW base))))))) [(0,t0),(3,t3),(5,t5),(6,t6),(7,t7),(8,t8)] H []
theorem AE (base : Nat) (t0 t3 t5 t6 t7 t8 : V) (H : Qa) : T7 base t0 t3 t5 t6 t7 t8 H =
 bnd (Qb .add 6 t8 (.int .i64 1)) fun v25 =>
 Mv base t0 t3 t5 t6 t7 v25 H := by kernel_rfl
def Nc (base : Nat) (t0 t3 t5 t6 t7 t8 : V) (H : Qa) : Option (Out × Qa) :=
Z5 base (cAt [1,1,1,1,0,1,0,0,1,0,0,1,1,1] Q1) ((Qe 1 ((Qg (fun _ t => Z5 base (cAt [1,1,1,1,0,1,0,0,1,1] Q1) ((Ql ZX (cAt [1,1,1,1,0,1,0,0] Q1) (Qt (fun t H d again => Z5 base (cAt [1,1,1,1,0,1,0,0] Q1) (Ql ZX (cAt [1,1,1,1,0,1,0,0] Q1) again ((Qe 0 ((Qg (fun _ t => Z5 base (cAt [1,1,1,1,1] Q1) (ZW base) (Qf ZX (cAt [1,1,1,1,1] Q1) t)) (ZW base)))))) t H d)) ((Qe 0 ((Qg (fun _ t => Z5 base (cAt [1,1,1,1,1] Q1) (ZW base) (Qf ZX (cAt [1,1,1,1,1] Q1) t)) (ZW base))))))) (Qf ZX (cAt [1,1,1,1,0,1,0,0,1,1] Q1) t)) ((Ql ZX (cAt [1,1,1,1,0,1,0,0] Q1) (Qt (fun t H d again => Z5 base (cAt [1,1,1,1,0,1,0,0] Q1) (Ql ZX (cAt [1,1,1,1,0,1,0,0] Q1) again ((Qe 0 ((Qg (fun _ t => Z5 base (cAt [1,1,1,1,1] Q1) (ZW base) (Qf ZX (cAt [1,1,1,1,1] Q1) t)) (ZW base)))))) t H d)) ((Qe 0 ((Qg (fun _ t => Z5 base (cAt [1,1,1,1,1] Q1) (ZW base) (Qf ZX (cAt [1,1,1,1,1] Q1) t)) (ZW base))))))))))) [(0,t0),(3,t3),(5,t5),(6,t6),(7,t7),(8,t8)] H []
theorem A7 (base : Nat) (t0 t3 t5 t6 t7 t8 : V) (H : Qa) : Nc base t0 t3 t5 t6 t7 t8 H =
 bnd (Qx 6 t0 t8) fun v20 =>
 bnd (Qd true 6 H v20) fun v21 =>
 bnd (Zr 6 1 (.agg [(.int .i64 0),(.int .u64 0),(.int .u64 0),(.int .u64 0),(.int .u64 0),(.vs [])]) [(0,v21)]) fun v22 =>
 beff (Z6 base 6 64 true t5 v22 H) fun v23 h24 =>
 T7 base t0 t3 v23 t6 t7 t8 h24 := by kernel_rfl
def Gb (base : Nat) (t0 t3 t5 t6 t7 t8 t9 : V) (H : Qa) : Option (Out × Qa) :=
Z5 base (cAt [1,1,1,1,0,1,0,0,1,0,0,1,1] Q1) ((Qe 1 ((Qg (fun _ t => Z5 base (cAt [1,1,1,1,0,1,0,0,1,1] Q1) ((Ql ZX (cAt [1,1,1,1,0,1,0,0] Q1) (Qt (fun t H d again => Z5 base (cAt [1,1,1,1,0,1,0,0] Q1) (Ql ZX (cAt [1,1,1,1,0,1,0,0] Q1) again ((Qe 0 ((Qg (fun _ t => Z5 base (cAt [1,1,1,1,1] Q1) (ZW base) (Qf ZX (cAt [1,1,1,1,1] Q1) t)) (ZW base)))))) t H d)) ((Qe 0 ((Qg (fun _ t => Z5 base (cAt [1,1,1,1,1] Q1) (ZW base) (Qf ZX (cAt [1,1,1,1,1] Q1) t)) (ZW base))))))) (Qf ZX (cAt [1,1,1,1,0,1,0,0,1,1] Q1) t)) ((Ql ZX (cAt [1,1,1,1,0,1,0,0] Q1) (Qt (fun t H d again => Z5 base (cAt [1,1,1,1,0,1,0,0] Q1) (Ql ZX (cAt [1,1,1,1,0,1,0,0] Q1) again ((Qe 0 ((Qg (fun _ t => Z5 base (cAt [1,1,1,1,1] Q1) (ZW base) (Qf ZX (cAt [1,1,1,1,1] Q1) t)) (ZW base)))))) t H d)) ((Qe 0 ((Qg (fun _ t => Z5 base (cAt [1,1,1,1,1] Q1) (ZW base) (Qf ZX (cAt [1,1,1,1,1] Q1) t)) (ZW base))))))))))) [(0,t0),(3,t3),(5,t5),(6,t6),(7,t7),(8,t8),(9,t9)] H []
theorem Fe (base : Nat) (t0 t3 t5 t6 t7 t8 t9 : V) (H : Qa) : Gb base t0 t3 t5 t6 t7 t8 t9 H =
 bnd (Qb .gtr 6 t9 t6) fun v12 =>
 bnd (gua v12 true (QK t7) (some (.tup []))) fun v13 =>
 bnd (gua v12 true (oUn .not v13) (some (.tup []))) fun v14 =>
 bnd (QX v12 v14 (.bool false)) fun v15 =>
 cnd v15
 (bnd (Qd true 6 H t3) fun v16 =>
 bnd (Zr 6 1 (.agg [(.int .i64 0),(.int .u64 0),(.int .u64 0),(.int .u64 0),(.int .u64 0),(.vs [])]) [(0,v16)]) fun v17 =>
 beff (Z6 base 6 64 true t5 v17 H) fun v18 h19 =>
 Nc base t0 t3 v18 t6 (.bool true) t8 h19)
 (Nc base t0 t3 t5 t6 t7 t8 H) := by kernel_rfl
def CZ (base : Nat) (t5 : V) (H : Qa) : Option (Out × Qa) :=
Z5 base (cAt [1,1,1,1,1,1] Q1) (ZW base) [(5,t5)] H []
theorem QeF (base : Nat) (t5 : V) (H : Qa) : CZ base t5 H =
 rt false base t5 H := by kernel_rfl
theorem BS (base : Nat) (t0 t3 t5 t6 t7 t8 : V) (H : Qa) : Mv base t0 t3 t5 t6 t7 t8 H =
 bnd (QM t0) fun v5 =>
 bnd (Qb .lss 6 t8 v5) fun v6 =>
 cnd v6
 (bnd (Qx 6 t0 t8) fun v7 =>
 bnd (Qd true 6 H v7) fun v8 =>
 bcall (E Wm [v8] H) (fun v9 h10 =>
 bnd (Qb .eql 6 v9 t6) fun v11 =>
 cnd v11
 (Gb base t0 t3 t5 t6 (.bool true) t8 v9 h10)
 (Gb base t0 t3 t5 t6 t7 t8 v9 h10))
 (fun v9 h10 => pn false base v9 h10))
 (bnd (oUn .not t7) fun v26 =>
 cnd v26
 (bnd (Qd true 6 H t3) fun v27 =>
 bnd (Zr 6 1 (.agg [(.int .i64 0),(.int .u64 0),(.int .u64 0),(.int .u64 0),(.int .u64 0),(.vs [])]) [(0,v27)]) fun v28 =>
 beff (Z6 base 6 64 true t5 v28 H) fun v29 h30 =>
 CZ base v29 h30)
 (CZ base t5 H)) := (Za (cAt [1,1,1,1,0,1,0,0] Q1) ((Qe 0 ((Qg (fun _ t => Z5 base (cAt [1,1,1,1,1] Q1) (ZW base) (Qf ZX (cAt [1,1,1,1,1] Q1) t)) (ZW base))))) _ H []).trans (by kernel_rfl)
def QdV (base : Nat) (t0 t1 : V) (H : Qa) : Option (Out × Qa) := Z5 base Q1 (ZW base) [(0,t0),(1,t1)] H []
theorem QpW (base : Nat) (t0 t1 : V) (H : Qa) : QdV base t0 t1 H =
 beff (QB H t1) fun v0 h1 =>
 bnd (Qd true 6 h1 v0) fun v2 =>
 bcall (E Wm [v2] h1) (fun v3 h4 =>
 Mv base t0 v0 .nils v3 (.bool false) (.int .i64 0) h4)
 (fun v3 h4 => pn false base v3 h4) := by kernel_rfl
theorem Qnu (t0 t1 : V) (H : Qa) : E Dk [t0,t1] H = QdV H.length t0 t1 H := (QR Tryd.func43 (by kernel_rfl) (by kernel_rfl) (by kernel_rfl)).trans (by kernel_rfl)
def Vr : Code := QO Tryd.f44
def GK : Ks := [(2,[0,1,7,8])]
def Ng (base : Nat) : KC (Out × Qa) := QN Tryd.prog D false base 19 Tryd.f44.results.toList
def F6 (base : Nat) (c : Code) (k : KC (Out × Qa)) (t : Ts) (H : Qa) (d : Ds) : Option (Out × Qa) := xC Tryd.prog base true GK E 19 c k t H d
def Gh (base : Nat) (t0 t1 t7 t8 : V) (H : Qa) : Option (Out × Qa) :=
Qt (fun t H d again => F6 base (cAt [1,0,1,0,0] Vr) (Ql GK (cAt [1,0,1,0,0] Vr) again ((Qe 0 ((Qg (fun _ t => F6 base (cAt [1,1] Vr) (Ng base) (Qf GK (cAt [1,1] Vr) t)) (Ng base)))))) t H d) [(0,t0),(1,t1),(7,t7),(8,t8)] H []
theorem Cx (base : Nat) (t0 t1 t7 t8 : V) (H : Qa) : Gh base t0 t1 t7 t8 H =
 bnd (Qb .lss 6 t8 t7) fun v1 =>
 cnd v1
 (bnd (Qx 6 t0 t8) fun v2 =>
 bnd (Qd true 6 H v2) fun v3 =>
 bcall (J2 E t1 [v3] H) (fun v4 h5 =>
 cnd v4
 (rt false base t8 h5)
 (bnd (Qb .add 6 t8 (.int .i64 1)) fun v6 =>
 Gh base t0 t1 t7 v6 h5))
 (fun v4 h5 => pn false base v4 h5))
 (rt false base (.int .i64 (-1)) H) := (Za (cAt [1,0,1,0,0] Vr) ((Qe 0 ((Qg (fun _ t => F6 base (cAt [1,1] Vr) (Ng base) (Qf GK (cAt [1,1] Vr) t)) (Ng base))))) _ H []).trans (by kernel_rfl)
def QeZ (base : Nat) (t0 t1 : V) (H : Qa) : Option (Out × Qa) := F6 base Vr (Ng base) [(0,t0),(1,t1)] H []
theorem Qq2 (base : Nat) (t0 t1 : V) (H : Qa) : QeZ base t0 t1 H =
 bnd (QM t0) fun v0 =>
 Gh base t0 t1 v0 (.int .i64 0) H := by kernel_rfl
theorem QnF (t0 t1 : V) (H : Qa) : E L4 [t0,t1] H = QeZ H.length t0 t1 H := (QR Tryd.func44 (by kernel_rfl) (by kernel_rfl) (by kernel_rfl)).trans (by kernel_rfl)
def YF : Code := QO Tryd.f47
def VB : Ks := [(4,[0,2,3,10,11,12]),(8,[0,2,3,10,11,12]),(12,[0,2])]
def KU (base : Nat) : KC (Out × Qa) := QN Tryd.prog D false base 40 Tryd.f47.results.toList
def Wz (base : Nat) (c : Code) (k : KC (Out × Qa)) (t : Ts) (H : Qa) (d : Ds) : Option (Out × Qa) := xC Tryd.prog base false VB E 40 c k t H d
def UU (base : Nat) (t0 t2 t3 t10 t11 t12 : V) (H : Qa) : Option (Out × Qa) :=
Qt (fun t H d again => Wz base (cAt [1,1,1,0,1,0,0] YF) (Ql VB (cAt [1,1,1,0,1,0,0] YF) again ((Qe 0 ((Qg (fun _ t => Wz base (cAt [1,1,1,1] YF) (KU base) (Qf VB (cAt [1,1,1,1] YF) t)) (KU base)))))) t H d) [(0,t0),(2,t2),(3,t3),(10,t10),(11,t11),(12,t12)] H []
def LZ (base : Nat) (t0 t2 t3 t10 t11 t12 : V) (H : Qa) : Option (Out × Qa) :=
Wz base (cAt [1,1,1,0,1,0,0,1,1,1] YF) ((Ql VB (cAt [1,1,1,0,1,0,0] YF) (Qt (fun t H d again => Wz base (cAt [1,1,1,0,1,0,0] YF) (Ql VB (cAt [1,1,1,0,1,0,0] YF) again ((Qe 0 ((Qg (fun _ t => Wz base (cAt [1,1,1,1] YF) (KU base) (Qf VB (cAt [1,1,1,1] YF) t)) (KU base)))))) t H d)) ((Qe 0 ((Qg (fun _ t => Wz base (cAt [1,1,1,1] YF) (KU base) (Qf VB (cAt [1,1,1,1] YF) t)) (KU base))))))) [(0,t0),(2,t2),(3,t3),(10,t10),(11,t11),(12,t12)] H []
theorem Qpd (base : Nat) (t0 t2 t3 t10 t11 t12 : V) (H : Qa) : LZ base t0 t2 t3 t10 t11 t12 H =
 bnd (Qb .add 6 t12 (.int .i64 1)) fun v28 =>
 UU base t0 t2 t3 t10 t11 v28 H := by kernel_rfl
def Lo (base : Nat) (t0 t2 : V) (H : Qa) : Option (Out × Qa) :=
Wz base (cAt [1,1,1,1,1,1] YF) (KU base) [(0,t0),(2,t2)] H []
theorem QdQ (base : Nat) (t0 t2 : V) (H : Qa) : Lo base t0 t2 H =
 bcall (E PC [t0,(.fn Um [])] H) (fun v42 h43 =>
 bcall (E GE [t0,(.fn BV [])] h43) (fun v44 h45 =>
 bcall (E LI [v44,(.int .i64 4),(.int .i64 0)] h45) (fun v46 h47 =>
 beff (Qs base 6 h47 t2 v46) fun v48 h49 =>
 bnd (Qd true 6 h49 t2) fun v50 =>
 rt false base v50 h49)
 (fun v46 h47 => pn false base v46 h47))
 (fun v44 h45 => pn false base v44 h45))
 (fun v42 h43 => pn false base v42 h43) := by kernel_rfl
theorem Pe (base : Nat) (t0 t2 t3 t10 t11 t12 : V) (H : Qa) : UU base t0 t2 t3 t10 t11 t12 H =
 bnd (Qb .lss 6 t12 t11) fun v11 =>
 cnd v11
 (bnd (Qx 6 t10 t12) fun v12 =>
 bnd (Qd true 6 H v12) fun v13 =>
 beff (QB H (.agg [(.int .i64 0),(.int .u64 0),(.int .u64 0),(.int .u64 0),(.int .u64 0),.nils])) fun v14 h15 =>
 beff (Qs base 6 h15 v14 v13) fun v16 h17 =>
 bnd (Qp v14 0) fun v18 =>
 bnd (Qd false 1 h17 v18) fun v19 =>
 bnd (Qb .eql 6 v19 (.int .i64 2)) fun v20 =>
 cnd v20
 (bnd (Qd true 4 h17 t3) fun v21 =>
 bnd (Qp v14 1) fun v22 =>
 bnd (Qd true 4 h17 v22) fun v23 =>
 bcall (E AM [v21,v23] h17) (fun v24 h25 =>
 beff (Qs base 4 h25 t3 v24) fun v26 h27 =>
 LZ base t0 t2 t3 t10 t11 t12 h27)
 (fun v24 h25 => pn false base v24 h25))
 (LZ base t0 t2 t3 t10 t11 t12 h17))
 (bcall (E Rq [(.int .i64 2)] H) (fun v29 h30 =>
 bcall (E U2 [t0,v29] h30) (fun v31 h32 =>
 bnd (Qd true 4 h32 t3) fun v33 =>
 bnd (MX [(.int .u64 0),(.int .u64 0),(.int .u64 0),(.int .u64 0)] 1 []) fun v34 =>
 bnd (Qb .neq 46 v33 v34) fun v35 =>
 cnd v35
 (bnd (Qd true 4 h32 t3) fun v36 =>
 bcall (E Cb [v36] h32) (fun v37 h38 =>
 bnd (Zr 6 1 (.agg [(.int .i64 0),(.int .u64 0),(.int .u64 0),(.int .u64 0),(.int .u64 0),(.vs [])]) [(0,v37)]) fun v39 =>
 bcall (E B8 [v31,(.int .i64 0),v39] h38) (fun v40 h41 =>
 Lo base v40 t2 h41)
 (fun v40 h41 => pn false base v40 h41))
 (fun v37 h38 => pn false base v37 h38))
 (Lo base v31 t2 h32))
 (fun v31 h32 => pn false base v31 h32))
 (fun v29 h30 => pn false base v29 h30)) := (Za (cAt [1,1,1,0,1,0,0] YF) ((Qe 0 ((Qg (fun _ t => Wz base (cAt [1,1,1,1] YF) (KU base) (Qf VB (cAt [1,1,1,1] YF) t)) (KU base))))) _ H []).trans (by kernel_rfl)
def Qb6 (base : Nat) (t0 : V) (H : Qa) : Option (Out × Qa) := Wz base YF (KU base) [(0,t0)] H []
theorem Qnh (base : Nat) (t0 : V) (H : Qa) : Qb6 base t0 H =
 beff (QB H (.agg [(.int .i64 0),(.int .u64 0),(.int .u64 0),(.int .u64 0),(.int .u64 0),.nils])) fun v0 h1 =>
 bcall (E P6 [t0,(.int .i64 4)] h1) (fun v2 h3 =>
 bcall (E Rq [(.int .i64 0)] h3) (fun v4 h5 =>
 bcall (E U2 [v2,v4] h5) (fun v6 h7 =>
 beff (QB h7 (.agg [(.int .u64 0),(.int .u64 0),(.int .u64 0),(.int .u64 0)])) fun v8 h9 =>
 bnd (QM v6) fun v10 =>
 UU base v6 v0 v8 v6 v10 (.int .i64 0) h9)
 (fun v6 h7 => pn false base v6 h7))
 (fun v4 h5 => pn false base v4 h5))
 (fun v2 h3 => pn false base v2 h3) := by kernel_rfl
theorem Qla (t0 : V) (H : Qa) : E Gm [t0] H = Qb6 H.length t0 H := (QR Tryd.func47 (by kernel_rfl) (by kernel_rfl) (by kernel_rfl)).trans (by kernel_rfl)
def YS : Code := QO Tryd.f48
def Vj : Ks := [(2,[1,4,7,8,9]),(7,[1,4,7,8,9])]
def Wn (base : Nat) : KC (Out × Qa) := QN Tryd.prog D true base 27 Tryd.f48.results.toList
def WX (base : Nat) (c : Code) (k : KC (Out × Qa)) (t : Ts) (H : Qa) (d : Ds) : Option (Out × Qa) := xC Tryd.prog base false Vj E 27 c k t H d
def Fg (base : Nat) (t1 t4 t7 t8 t9 : V) (H : Qa) : Option (Out × Qa) :=
Qt (fun t H d again => WX base (cAt [1,0,1,0,0] YS) (Ql Vj (cAt [1,0,1,0,0] YS) again ((Qe 0 ((Qg (fun _ t => WX base (cAt [1,1] YS) (Wn base) (Qf Vj (cAt [1,1] YS) t)) (Wn base)))))) t H d) [(1,t1),(4,t4),(7,t7),(8,t8),(9,t9)] H []
def NR (base : Nat) (t1 t4 t7 t8 t9 : V) (H : Qa) : Option (Out × Qa) :=
WX base (cAt [1,0,1,0,0,1,1,1] YS) ((Ql Vj (cAt [1,0,1,0,0] YS) (Qt (fun t H d again => WX base (cAt [1,0,1,0,0] YS) (Ql Vj (cAt [1,0,1,0,0] YS) again ((Qe 0 ((Qg (fun _ t => WX base (cAt [1,1] YS) (Wn base) (Qf Vj (cAt [1,1] YS) t)) (Wn base)))))) t H d)) ((Qe 0 ((Qg (fun _ t => WX base (cAt [1,1] YS) (Wn base) (Qf Vj (cAt [1,1] YS) t)) (Wn base))))))) [(1,t1),(4,t4),(7,t7),(8,t8),(9,t9)] H []
theorem Qa0 (base : Nat) (t1 t4 t7 t8 t9 : V) (H : Qa) : NR base t1 t4 t7 t8 t9 H =
 bnd (Qb .add 6 t9 (.int .i64 1)) fun v15 =>
 Fg base t1 t4 t7 t8 v15 H := by kernel_rfl
theorem Qq1 (base : Nat) (t1 t4 t7 t8 t9 : V) (H : Qa) : Fg base t1 t4 t7 t8 t9 H =
 bnd (Qb .lss 6 t9 t8) fun v1 =>
 cnd v1
 (bnd (Qx 6 t7 t9) fun v2 =>
 bnd (Qd true 6 H v2) fun v3 =>
 beff (QB H (.agg [(.int .i64 0),(.int .u64 0),(.int .u64 0),(.int .u64 0),(.int .u64 0),.nils])) fun v4 h5 =>
 beff (Qs base 6 h5 v4 v3) fun v6 h7 =>
 bnd (Qp v4 0) fun v8 =>
 bnd (Qd false 1 h7 v8) fun v9 =>
 bnd (Qb .eql 6 v9 t1) fun v10 =>
 cnd v10
 (bnd (Qp v4 5) fun v11 =>
 bnd (Qd false 1 h7 v11) fun v12 =>
 beff (Z6 base 6 64 true t4 v12 h7) fun v13 h14 =>
 NR base t1 v13 t7 t8 t9 h14)
 (bnd (Qd true 6 h7 v4) fun v16 =>
 bnd (Zr 6 1 (.agg [(.int .i64 0),(.int .u64 0),(.int .u64 0),(.int .u64 0),(.int .u64 0),(.vs [])]) [(0,v16)]) fun v17 =>
 beff (Z6 base 6 64 true t4 v17 h7) fun v18 h19 =>
 NR base t1 v18 t7 t8 t9 h19))
 (rt true base t4 H) := (Za (cAt [1,0,1,0,0] YS) ((Qe 0 ((Qg (fun _ t => WX base (cAt [1,1] YS) (Wn base) (Qf Vj (cAt [1,1] YS) t)) (Wn base))))) _ H []).trans (by kernel_rfl)
def QcN (base : Nat) (t0 t1 : V) (H : Qa) : Option (Out × Qa) := WX base YS (Wn base) [(0,t0),(1,t1)] H []
theorem Qjb (base : Nat) (t0 t1 : V) (H : Qa) : QcN base t0 t1 H =
 bnd (QM t0) fun v0 =>
 Fg base t1 .nils t0 v0 (.int .i64 0) H := by kernel_rfl
theorem QiH (t0 t1 : V) (H : Qa) : E P6 [t0,t1] H = QcN H.length t0 t1 H := (QR Tryd.func48 (by kernel_rfl) (by kernel_rfl) (by kernel_rfl)).trans (by kernel_rfl)
def Qns : Code := QO Tryd.f49
def QiV : Ks := []
def QpR (base : Nat) : KC (Out × Qa) := QN Tryd.prog D false base 4 Tryd.f49.results.toList
def QjH (base : Nat) (c : Code) (k : KC (Out × Qa)) (t : Ts) (H : Qa) (d : Ds) : Option (Out × Qa) := xC Tryd.prog base false QiV E 4 c k t H d
def QfU (base : Nat) (t0 : V) (H : Qa) : Option (Out × Qa) := QjH base Qns (QpR base) [(0,t0)] H []
theorem Qoz (base : Nat) (t0 : V) (H : Qa) : QfU base t0 H =
 beff (QB H t0) fun v0 h1 =>
 bnd (PV Jd [v0]) fun v2 =>
 rt false base v2 h1 := by kernel_rfl
theorem QnR (t0 : V) (H : Qa) : E Rq [t0] H = QfU H.length t0 H := (QR Tryd.func49 (by kernel_rfl) (by kernel_rfl) (by kernel_rfl)).trans (by kernel_rfl)
def QmE : Code := QO Tryd.f50
def QjR : Ks := []
def Qo0 (base : Nat) : KC (Out × Qa) := QN Tryd.prog D false base 21 Tryd.f50.results.toList
def QmQ (base : Nat) (c : Code) (k : KC (Out × Qa)) (t : Ts) (H : Qa) (d : Ds) : Option (Out × Qa) := xC Tryd.prog base false QjR E 21 c k t H d
def QdH (base : Nat) (t0 t1 t2 : V) (H : Qa) : Option (Out × Qa) := QmQ base QmE (Qo0 base) [(0,t0),(1,t1),(2,t2)] H []
theorem Qrb (base : Nat) (t0 t1 t2 : V) (H : Qa) : QdH base t0 t1 t2 H =
 beff (QB H (.agg [(.int .i64 0),(.int .u64 0),(.int .u64 0),(.int .u64 0),(.int .u64 0),.nils])) fun v0 h1 =>
 bnd (QM t0) fun v2 =>
 bnd (Qb .eql 6 v2 (.int .i64 0)) fun v3 =>
 cnd v3
 (bnd (Zj [(.int .i64 0),(.int .u64 0),(.int .u64 0),(.int .u64 0),(.int .u64 0),.nils] [(0,1),(1,4),(5,1)] [(0,t2)]) fun v4 =>
 beff (Qs base 6 h1 v0 v4) fun v5 h6 =>
 bnd (Qd true 6 h6 v0) fun v7 =>
 rt false base v7 h6)
 (bnd (Qb .eql 6 v2 (.int .i64 1)) fun v8 =>
 cnd v8
 (bnd (Qx 6 t0 (.int .i64 0)) fun v9 =>
 bnd (Qd true 6 h1 v9) fun v10 =>
 beff (Qs base 6 h1 v0 v10) fun v11 h12 =>
 bnd (Qd true 6 h12 v0) fun v13 =>
 rt false base v13 h12)
 (bnd (Zj [(.int .i64 0),(.int .u64 0),(.int .u64 0),(.int .u64 0),(.int .u64 0),.nils] [(0,1),(1,4),(5,1)] [(0,t1),(2,t0)]) fun v14 =>
 beff (Qs base 6 h1 v0 v14) fun v15 h16 =>
 bnd (Qd true 6 h16 v0) fun v17 =>
 rt false base v17 h16)) := by kernel_rfl
theorem Qqc (t0 t1 t2 : V) (H : Qa) : E LI [t0,t1,t2] H = QdH H.length t0 t1 t2 H := (QR Tryd.func50 (by kernel_rfl) (by kernel_rfl) (by kernel_rfl)).trans (by kernel_rfl)
def Y6 : Code := QO Tryd.f51
def WU : Ks := [(5,[0,1,5,6]),(6,[0,1,5,6])]
def Wi (base : Nat) : KC (Out × Qa) := QN Tryd.prog D true base 42 Tryd.f51.results.toList
def WV (base : Nat) (c : Code) (k : KC (Out × Qa)) (t : Ts) (H : Qa) (d : Ds) : Option (Out × Qa) := xC Tryd.prog base true WU E 42 c k t H d
def RN (base : Nat) (t0 t1 t5 t6 : V) (H : Qa) : Option (Out × Qa) :=
Qt (fun t H d again => WV base (cAt [1,1,1,0,1,0,0] Y6) (Ql WU (cAt [1,1,1,0,1,0,0] Y6) again ((Qe 0 ((Qg (fun _ t => WV base (cAt [1,1,1,1] Y6) (Wi base) (Qf WU (cAt [1,1,1,1] Y6) t)) (Wi base)))))) t H d) [(0,t0),(1,t1),(5,t5),(6,t6)] H []
def LA (base : Nat) (t0 t1 t5 t6 : V) (H : Qa) : Option (Out × Qa) :=
WV base (cAt [1,1,1,0,1,0,0,1,1] Y6) ((Ql WU (cAt [1,1,1,0,1,0,0] Y6) (Qt (fun t H d again => WV base (cAt [1,1,1,0,1,0,0] Y6) (Ql WU (cAt [1,1,1,0,1,0,0] Y6) again ((Qe 0 ((Qg (fun _ t => WV base (cAt [1,1,1,1] Y6) (Wi base) (Qf WU (cAt [1,1,1,1] Y6) t)) (Wi base)))))) t H d)) ((Qe 0 ((Qg (fun _ t => WV base (cAt [1,1,1,1] Y6) (Wi base) (Qf WU (cAt [1,1,1,1] Y6) t)) (Wi base))))))) [(0,t0),(1,t1),(5,t5),(6,t6)] H []
theorem QlH (base : Nat) (t0 t1 t5 t6 : V) (H : Qa) : LA base t0 t1 t5 t6 H =
 bnd (Qb .add 6 t6 (.int .i64 1)) fun v21 =>
 RN base t0 t1 t5 v21 H := by kernel_rfl
theorem Qld (base : Nat) (t0 t1 t5 t6 : V) (H : Qa) : RN base t0 t1 t5 t6 H =
 bnd (QM t0) fun v4 =>
 bnd (Qb .lss 6 t6 v4) fun v5 =>
 cnd v5
 (bnd (Qx 6 t0 t6) fun v6 =>
 bnd (Qd true 6 H v6) fun v7 =>
 beff (QB H (.agg [(.int .i64 0),(.int .u64 0),(.int .u64 0),(.int .u64 0),(.int .u64 0),.nils])) fun v8 h9 =>
 beff (Qs base 6 h9 v8 v7) fun v10 h11 =>
 bnd (Qd true 6 h11 v8) fun v12 =>
 bcall (J2 E t1 [v12] h11) (fun v13 h14 =>
 bnd (oUn .not v13) fun v15 =>
 cnd v15
 (bnd (Qd true 6 h14 v8) fun v16 =>
 bnd (Qx 6 t0 t5) fun v17 =>
 beff (Qs base 6 h14 v17 v16) fun v18 h19 =>
 bnd (Qb .add 6 t5 (.int .i64 1)) fun v20 =>
 LA base t0 t1 v20 t6 h19)
 (LA base t0 t1 t5 t6 h14))
 (fun v13 h14 => pn true base v13 h14))
 (bnd (JP 6 t0 (some t5) none none) fun v22 =>
 beff (Le base 6 [(.int .i64 0),(.int .u64 0),(.int .u64 0),(.int .u64 0),(.int .u64 0),.nils] v22 H) fun v23 h24 =>
 bnd (JP 6 t0 none (some t5) none) fun v25 =>
 rt true base v25 h24) := (Za (cAt [1,1,1,0,1,0,0] Y6) ((Qe 0 ((Qg (fun _ t => WV base (cAt [1,1,1,1] Y6) (Wi base) (Qf WU (cAt [1,1,1,1] Y6) t)) (Wi base))))) _ H []).trans (by kernel_rfl)
def Tn (base : Nat) (t0 t1 : V) (H : Qa) : Option (Out × Qa) := WV base Y6 (Wi base) [(0,t0),(1,t1)] H []
theorem A8 (base : Nat) (t0 t1 : V) (H : Qa) : Tn base t0 t1 H =
 bcall (E L4 [t0,t1] H) (fun v0 h1 =>
 bnd (Qb .eql 6 v0 (.int .i64 (-1))) fun v2 =>
 cnd v2
 (rt true base t0 h1)
 (bnd (Qb .add 6 v0 (.int .i64 1)) fun v3 =>
 RN base t0 t1 v0 v3 h1))
 (fun v0 h1 => pn true base v0 h1) := by kernel_rfl
theorem E6 (t0 t1 : V) (H : Qa) : E U2 [t0,t1] H = Tn H.length t0 t1 H := (QR Tryd.func51 (by kernel_rfl) (by kernel_rfl) (by kernel_rfl)).trans (by kernel_rfl)
def Qh7 : Code := QO Tryd.f52
def QpS : Ks := []
def Qqm (base : Nat) : KC (Out × Qa) := QN Tryd.prog D false base 43 Tryd.f52.results.toList
def QmC (base : Nat) (c : Code) (k : KC (Out × Qa)) (t : Ts) (H : Qa) (d : Ds) : Option (Out × Qa) := xC Tryd.prog base false QpS E 43 c k t H d
def QaN (base : Nat) (t0 t1 : V) (H : Qa) : Option (Out × Qa) := QmC base Qh7 (Qqm base) [(0,t0),(1,t1)] H []
theorem Qkw (base : Nat) (t0 t1 : V) (H : Qa) : QaN base t0 t1 H =
 bnd (J9 t0) fun v0 =>
 bnd (Qp v0 1) fun v1 =>
 bnd (Qd false 1 H v1) fun v2 =>
 bnd (Qb .add 6 v2 (.int .i64 1)) fun v3 =>
 bnd (J9 t0) fun v4 =>
 bnd (Qp v4 1) fun v5 =>
 beff (Qs base 1 H v5 v3) fun v6 h7 =>
 bnd (J9 t0) fun v8 =>
 bnd (Qp v8 1) fun v9 =>
 bnd (Qd false 1 h7 v9) fun v10 =>
 bnd (J9 t0) fun v11 =>
 bnd (Qp v11 0) fun v12 =>
 bnd (Qd false 1 h7 v12) fun v13 =>
 bnd (QM v13) fun v14 =>
 bnd (Qb .gtr 6 v10 v14) fun v15 =>
 bnd (gua v15 false (QK t0) (some (.tup []))) fun v16 =>
 bnd (gua v15 false (J9 v16) (some (.tup []))) fun v17 =>
 bnd (gua v15 false (Qp v17 1) (some (.tup []))) fun v18 =>
 bnd (gua v15 false (Qd false 1 h7 v18) (some (.tup []))) fun v19 =>
 bnd (gua v15 false (Qb .gtr 6 v19 (.int .i64 150)) (some (.tup []))) fun v20 =>
 bnd (QX v15 (.bool true) v20) fun v21 =>
 cnd v21
 (rt false base (.int .i64 0) h7)
 (bnd (J9 t0) fun v22 =>
 bnd (Qp v22 0) fun v23 =>
 bnd (Qd false 1 h7 v23) fun v24 =>
 bnd (J9 t0) fun v25 =>
 bnd (Qp v25 1) fun v26 =>
 bnd (Qd false 1 h7 v26) fun v27 =>
 bnd (Qb .sub 6 v27 (.int .i64 1)) fun v28 =>
 bnd (Qx 1 v24 v28) fun v29 =>
 bnd (Qd false 1 h7 v29) fun v30 =>
 bnd (Yc .i64 v30) fun v31 =>
 bnd (Qb .rem 6 v31 t1) fun v32 =>
 rt false base v32 h7) := by kernel_rfl
theorem Qip (t0 t1 : V) (H : Qa) : E Vm [t0,t1] H = QaN H.length t0 t1 H := (QR Tryd.func52 (by kernel_rfl) (by kernel_rfl) (by kernel_rfl)).trans (by kernel_rfl)
def QoS : Code := QO Tryd.f53
def Qjq : Ks := []
def Qk3 (base : Nat) : KC (Out × Qa) := QN Tryd.prog D false base 9 Tryd.f53.results.toList
def QqN (base : Nat) (c : Code) (k : KC (Out × Qa)) (t : Ts) (H : Qa) (d : Ds) : Option (Out × Qa) := xC Tryd.prog base false Qjq E 9 c k t H d
def Qf2 (base : Nat) (t0 t1 : V) (H : Qa) : Option (Out × Qa) := QqN base QoS (Qk3 base) [(0,t0),(1,t1)] H []
theorem Ql0 (base : Nat) (t0 t1 : V) (H : Qa) : Qf2 base t0 t1 H =
 beff (QB H (.agg [(.int .i64 0),(.int .u64 0),(.int .u64 0),(.int .u64 0),(.int .u64 0),.nils])) fun v0 h1 =>
 bcall (E BJ [t0,t1] h1) (fun v2 h3 =>
 bnd (Zj [(.int .i64 0),(.int .u64 0),(.int .u64 0),(.int .u64 0),(.int .u64 0),.nils] [(0,1),(1,4),(5,1)] [(0,(.int .i64 2)),(1,v2)]) fun v4 =>
 beff (Qs base 6 h3 v0 v4) fun v5 h6 =>
 bnd (Qd true 6 h6 v0) fun v7 =>
 rt false base v7 h6)
 (fun v2 h3 => pn false base v2 h3) := by kernel_rfl
theorem Qo4 (t0 t1 : V) (H : Qa) : E EW [t0,t1] H = Qf2 H.length t0 t1 H := (QR Tryd.func53 (by kernel_rfl) (by kernel_rfl) (by kernel_rfl)).trans (by kernel_rfl)
def WY : Code := QO Tryd.f54
def LL : Ks := [(3,[0,1,2,7,8])]
def Ni (base : Nat) : KC (Out × Qa) := QN Tryd.prog D false base 21 Tryd.f54.results.toList
def Em (base : Nat) (c : Code) (k : KC (Out × Qa)) (t : Ts) (H : Qa) (d : Ds) : Option (Out × Qa) := xC Tryd.prog base false LL E 21 c k t H d
def Fz (base : Nat) (t0 t1 t2 t7 t8 : V) (H : Qa) : Option (Out × Qa) :=
Qt (fun t H d again => Em base (cAt [1,1,0,1,0,0] WY) (Ql LL (cAt [1,1,0,1,0,0] WY) again ((Qe 0 ((Qg (fun _ t => Em base (cAt [1,1,1] WY) (Ni base) (Qf LL (cAt [1,1,1] WY) t)) (Ni base)))))) t H d) [(0,t0),(1,t1),(2,t2),(7,t7),(8,t8)] H []
theorem QbX (base : Nat) (t0 t1 t2 t7 t8 : V) (H : Qa) : Fz base t0 t1 t2 t7 t8 H =
 bnd (Qb .lss 6 t8 t1) fun v0 =>
 cnd v0
 (bcall (E N8 [t0,t2] H) (fun v1 h2 =>
 bnd (Zr 6 1 (.agg [(.int .i64 0),(.int .u64 0),(.int .u64 0),(.int .u64 0),(.int .u64 0),(.vs [])]) [(0,v1)]) fun v3 =>
 beff (Z6 base 6 64 true t7 v3 h2) fun v4 h5 =>
 bnd (Qb .add 6 t8 (.int .i64 1)) fun v6 =>
 Fz base t0 t1 t2 v4 v6 h5)
 (fun v1 h2 => pn false base v1 h2))
 (rt false base t7 H) := (Za (cAt [1,1,0,1,0,0] WY) ((Qe 0 ((Qg (fun _ t => Em base (cAt [1,1,1] WY) (Ni base) (Qf LL (cAt [1,1,1] WY) t)) (Ni base))))) _ H []).trans (by kernel_rfl)
def Qf8 (base : Nat) (t0 t1 t2 : V) (H : Qa) : Option (Out × Qa) := Em base WY (Ni base) [(0,t0),(1,t1),(2,t2)] H []
theorem Qjm (base : Nat) (t0 t1 t2 : V) (H : Qa) : Qf8 base t0 t1 t2 H =
 Fz base t0 t1 t2 .nils (.int .i64 0) H := by kernel_rfl
theorem Qrn (t0 t1 t2 : V) (H : Qa) : E FK [t0,t1,t2] H = Qf8 H.length t0 t1 t2 H := (QR Tryd.func54 (by kernel_rfl) (by kernel_rfl) (by kernel_rfl)).trans (by kernel_rfl)
def YQ : Code := QO Tryd.f55
def Vt : Ks := [(3,[2,3,4,5,6,7,12,13,14]),(4,[2,3,4,5,6,7,12,13,14])]
def Wv (base : Nat) : KC (Out × Qa) := QN Tryd.prog D false base 69 Tryd.f55.results.toList
def WM (base : Nat) (c : Code) (k : KC (Out × Qa)) (t : Ts) (H : Qa) (d : Ds) : Option (Out × Qa) := xC Tryd.prog base false Vt E 69 c k t H d
def Rh (base : Nat) (t2 t3 t4 t5 t6 t7 t12 t13 t14 : V) (H : Qa) : Option (Out × Qa) :=
Qt (fun t H d again => WM base (cAt [1,1,0,1,0,0] YQ) (Ql Vt (cAt [1,1,0,1,0,0] YQ) again ((Qe 0 ((Qg (fun _ t => WM base (cAt [1,1,1] YQ) (Wv base) (Qf Vt (cAt [1,1,1] YQ) t)) (Wv base)))))) t H d) [(2,t2),(3,t3),(4,t4),(5,t5),(6,t6),(7,t7),(12,t12),(13,t13),(14,t14)] H []
def NZ (base : Nat) (t2 t3 t4 t5 t6 t7 t12 t13 t14 : V) (H : Qa) : Option (Out × Qa) :=
WM base (cAt [1,1,0,1,0,0,1,1] YQ) ((Ql Vt (cAt [1,1,0,1,0,0] YQ) (Qt (fun t H d again => WM base (cAt [1,1,0,1,0,0] YQ) (Ql Vt (cAt [1,1,0,1,0,0] YQ) again ((Qe 0 ((Qg (fun _ t => WM base (cAt [1,1,1] YQ) (Wv base) (Qf Vt (cAt [1,1,1] YQ) t)) (Wv base)))))) t H d)) ((Qe 0 ((Qg (fun _ t => WM base (cAt [1,1,1] YQ) (Wv base) (Qf Vt (cAt [1,1,1] YQ) t)) (Wv base))))))) [(2,t2),(3,t3),(4,t4),(5,t5),(6,t6),(7,t7),(12,t12),(13,t13),(14,t14)] H []
theorem QbA (base : Nat) (t2 t3 t4 t5 t6 t7 t12 t13 t14 : V) (H : Qa) : NZ base t2 t3 t4 t5 t6 t7 t12 t13 t14 H =
 bnd (Qb .add 6 t14 (.int .i64 1)) fun v52 =>
 Rh base t2 t3 t4 t5 t6 t7 t12 t13 v52 H := by kernel_rfl
theorem Qmu (base : Nat) (t2 t3 t4 t5 t6 t7 t12 t13 t14 : V) (H : Qa) : Rh base t2 t3 t4 t5 t6 t7 t12 t13 t14 H =
 bnd (Qb .lss 6 t14 (.int .i64 256)) fun v8 =>
 cnd v8
 (bnd (Qd true 4 H t6) fun v9 =>
 bcall (E W9 [v9,t14] H) (fun v10 h11 =>
 bnd (bnd (Qd true 4 h11 t7) fun v12 => sch (sam (Qd true 4 H t7) v12) (
 some v12)) fun v12 =>
 bcall (E W9 [v12,t14] h11) (fun v13 h14 =>
 bnd (oUn .not v10) fun v15 =>
 bnd (gua v15 true (QK v13) (some (.tup []))) fun v16 =>
 bnd (gua v15 true (oUn .not v16) (some (.tup []))) fun v17 =>
 bnd (QX v15 v17 (.bool false)) fun v18 =>
 bnd (gua v18 true (QK t2) (some (.tup []))) fun v19 =>
 bnd (QX v18 v19 (.bool false)) fun v20 =>
 bnd (gua v20 false (QK v10) (some (.tup []))) fun v21 =>
 bnd (gua v20 false (QK v21) (some (.tup []))) fun v22 =>
 bnd (gua v22 true (QK v13) (some (.tup []))) fun v23 =>
 bnd (gua v22 true (oUn .not v23) (some (.tup []))) fun v24 =>
 bnd (gua v20 false (QX v22 v24 (.bool false)) (some (.tup []))) fun v25 =>
 bnd (gua v20 false (QK v25) (some (.tup []))) fun v26 =>
 bnd (gua v26 true (QK t3) (some (.tup []))) fun v27 =>
 bnd (gua v20 false (QX v26 v27 (.bool false)) (some (.tup []))) fun v28 =>
 bnd (QX v20 (.bool true) v28) fun v29 =>
 bnd (gua v29 false (QK v10) (some (.tup []))) fun v30 =>
 bnd (gua v29 false (oUn .not v30) (some (.tup []))) fun v31 =>
 bnd (gua v29 false (QK v31) (some (.tup []))) fun v32 =>
 bnd (gua v32 true (QK v13) (some (.tup []))) fun v33 =>
 bnd (gua v29 false (QX v32 v33 (.bool false)) (some (.tup []))) fun v34 =>
 bnd (gua v29 false (QK v34) (some (.tup []))) fun v35 =>
 bnd (gua v35 true (QK t4) (some (.tup []))) fun v36 =>
 bnd (gua v29 false (QX v35 v36 (.bool false)) (some (.tup []))) fun v37 =>
 bnd (QX v29 (.bool true) v37) fun v38 =>
 bnd (gua v38 false (QK v10) (some (.tup []))) fun v39 =>
 bnd (gua v38 false (QK v39) (some (.tup []))) fun v40 =>
 bnd (gua v40 true (QK v13) (some (.tup []))) fun v41 =>
 bnd (gua v38 false (QX v40 v41 (.bool false)) (some (.tup []))) fun v42 =>
 bnd (gua v38 false (QK v42) (some (.tup []))) fun v43 =>
 bnd (gua v43 true (QK t5) (some (.tup []))) fun v44 =>
 bnd (gua v38 false (QX v43 v44 (.bool false)) (some (.tup []))) fun v45 =>
 bnd (QX v38 (.bool true) v45) fun v46 =>
 cnd v46
 (bnd (Qd true 4 h14 t13) fun v47 =>
 bcall (E PR [v47,t14] h14) (fun v48 h49 =>
 beff (Qs base 4 h49 t13 v48) fun v50 h51 =>
 NZ base t2 t3 t4 t5 t6 t7 t12 t13 t14 h51)
 (fun v48 h49 => pn false base v48 h49))
 (NZ base t2 t3 t4 t5 t6 t7 t12 t13 t14 h14))
 (fun v13 h14 => pn false base v13 h14))
 (fun v10 h11 => sch (tlb (Qd true 4 H t7) fun v53 => tlb (QK t14) fun v54 => true) (pn false base v10 h11)))
 (bnd (Qd true 4 H t13) fun v55 =>
 beff (Qs base 4 H t12 v55) fun v56 h57 =>
 bnd (Qd true 4 h57 t12) fun v58 =>
 rt false base v58 h57) := (Za (cAt [1,1,0,1,0,0] YQ) ((Qe 0 ((Qg (fun _ t => WM base (cAt [1,1,1] YQ) (Wv base) (Qf Vt (cAt [1,1,1] YQ) t)) (Wv base))))) _ H []).trans (by kernel_rfl)
def Qg5 (base : Nat) (t0 t1 t2 t3 t4 t5 : V) (H : Qa) : Option (Out × Qa) := WM base YQ (Wv base) [(0,t0),(1,t1),(2,t2),(3,t3),(4,t4),(5,t5)] H []
theorem QiR (base : Nat) (t0 t1 t2 t3 t4 t5 : V) (H : Qa) : Qg5 base t0 t1 t2 t3 t4 t5 H =
 beff (QB H t0) fun v0 h1 =>
 beff (QB h1 t1) fun v2 h3 =>
 beff (QB h3 (.agg [(.int .u64 0),(.int .u64 0),(.int .u64 0),(.int .u64 0)])) fun v4 h5 =>
 beff (QB h5 (.agg [(.int .u64 0),(.int .u64 0),(.int .u64 0),(.int .u64 0)])) fun v6 h7 =>
 Rh base t2 t3 t4 t5 v0 v2 v4 v6 (.int .i64 0) h7 := by kernel_rfl
theorem QkR (t0 t1 t2 t3 t4 t5 : V) (H : Qa) : E AG [t0,t1,t2,t3,t4,t5] H = Qg5 H.length t0 t1 t2 t3 t4 t5 H := (QR Tryd.func55 (by kernel_rfl) (by kernel_rfl) (by kernel_rfl)).trans (by kernel_rfl)
def Qq : Code := QO Tryd.f56
def QT : Ks := [(10,[3,4,5]),(14,[3,4,5]),(11,[3,4,5]),(18,[1,3,6]),(23,[1,3,7]),(27,[1,3,7]),(24,[1,3,7])]
def QS (base : Nat) : KC (Out × Qa) := QN Tryd.prog D false base 100 Tryd.f56.results.toList
def QV (base : Nat) (c : Code) (k : KC (Out × Qa)) (t : Ts) (H : Qa) (d : Ds) : Option (Out × Qa) := xC Tryd.prog base false QT E 100 c k t H d
def PY (base : Nat) (t3 t4 t5 : V) (H : Qa) : Option (Out × Qa) :=
Qt (fun t H d again => QV base (cAt [1,1,0,1,0,1,1,1,1,1,0,1,0,1,0,0] Qq) (Ql QT (cAt [1,1,0,1,0,1,1,1,1,1,0,1,0,1,0,0] Qq) again ((Qe 1 ((Qg (fun _ t => QV base (cAt [1,1,0,1,0,1,1,1,1,1,0,1,1] Qq) ((Qe 0 ((Qg (fun _ t => QV base (cAt [1,1,1] Qq) (QS base) (Qf QT (cAt [1,1,1] Qq) t)) (QS base))))) (Qf QT (cAt [1,1,0,1,0,1,1,1,1,1,0,1,1] Qq) t)) ((Qe 0 ((Qg (fun _ t => QV base (cAt [1,1,1] Qq) (QS base) (Qf QT (cAt [1,1,1] Qq) t)) (QS base)))))))))) t H d) [(3,t3),(4,t4),(5,t5)] H []
def QbE (base : Nat) (t3 t4 t5 : V) (H : Qa) : Option (Out × Qa) :=
QV base (cAt [1,1,0,1,0,1,1,1,1,1,0,1,0,1,0,0,1,1] Qq) ((Ql QT (cAt [1,1,0,1,0,1,1,1,1,1,0,1,0,1,0,0] Qq) (Qt (fun t H d again => QV base (cAt [1,1,0,1,0,1,1,1,1,1,0,1,0,1,0,0] Qq) (Ql QT (cAt [1,1,0,1,0,1,1,1,1,1,0,1,0,1,0,0] Qq) again ((Qe 1 ((Qg (fun _ t => QV base (cAt [1,1,0,1,0,1,1,1,1,1,0,1,1] Qq) ((Qe 0 ((Qg (fun _ t => QV base (cAt [1,1,1] Qq) (QS base) (Qf QT (cAt [1,1,1] Qq) t)) (QS base))))) (Qf QT (cAt [1,1,0,1,0,1,1,1,1,1,0,1,1] Qq) t)) ((Qe 0 ((Qg (fun _ t => QV base (cAt [1,1,1] Qq) (QS base) (Qf QT (cAt [1,1,1] Qq) t)) (QS base)))))))))) t H d)) ((Qe 1 ((Qg (fun _ t => QV base (cAt [1,1,0,1,0,1,1,1,1,1,0,1,1] Qq) ((Qe 0 ((Qg (fun _ t => QV base (cAt [1,1,1] Qq) (QS base) (Qf QT (cAt [1,1,1] Qq) t)) (QS base))))) (Qf QT (cAt [1,1,0,1,0,1,1,1,1,1,0,1,1] Qq) t)) ((Qe 0 ((Qg (fun _ t => QV base (cAt [1,1,1] Qq) (QS base) (Qf QT (cAt [1,1,1] Qq) t)) (QS base))))))))))) [(3,t3),(4,t4),(5,t5)] H []
theorem Qoh (base : Nat) (t3 t4 t5 : V) (H : Qa) : QbE base t3 t4 t5 H =
 bnd (Qb .add 6 t5 (.int .i64 1)) fun v28 =>
 PY base t3 t4 v28 H := by kernel_rfl
def Fw (base : Nat) (t3 t4 t5 : V) (H : Qa) : Option (Out × Qa) :=
QV base (cAt [1,1,0,1,0,1,1,1,1,1,0,1,0,1,0,0,1,0,0,1] Qq) ((Qe 2 ((Qg (fun _ t => QV base (cAt [1,1,0,1,0,1,1,1,1,1,0,1,0,1,0,0,1,1] Qq) ((Ql QT (cAt [1,1,0,1,0,1,1,1,1,1,0,1,0,1,0,0] Qq) (Qt (fun t H d again => QV base (cAt [1,1,0,1,0,1,1,1,1,1,0,1,0,1,0,0] Qq) (Ql QT (cAt [1,1,0,1,0,1,1,1,1,1,0,1,0,1,0,0] Qq) again ((Qe 1 ((Qg (fun _ t => QV base (cAt [1,1,0,1,0,1,1,1,1,1,0,1,1] Qq) ((Qe 0 ((Qg (fun _ t => QV base (cAt [1,1,1] Qq) (QS base) (Qf QT (cAt [1,1,1] Qq) t)) (QS base))))) (Qf QT (cAt [1,1,0,1,0,1,1,1,1,1,0,1,1] Qq) t)) ((Qe 0 ((Qg (fun _ t => QV base (cAt [1,1,1] Qq) (QS base) (Qf QT (cAt [1,1,1] Qq) t)) (QS base)))))))))) t H d)) ((Qe 1 ((Qg (fun _ t => QV base (cAt [1,1,0,1,0,1,1,1,1,1,0,1,1] Qq) ((Qe 0 ((Qg (fun _ t => QV base (cAt [1,1,1] Qq) (QS base) (Qf QT (cAt [1,1,1] Qq) t)) (QS base))))) (Qf QT (cAt [1,1,0,1,0,1,1,1,1,1,0,1,1] Qq) t)) ((Qe 0 ((Qg (fun _ t => QV base (cAt [1,1,1] Qq) (QS base) (Qf QT (cAt [1,1,1] Qq) t)) (QS base))))))))))) (Qf QT (cAt [1,1,0,1,0,1,1,1,1,1,0,1,0,1,0,0,1,1] Qq) t)) ((Ql QT (cAt [1,1,0,1,0,1,1,1,1,1,0,1,0,1,0,0] Qq) (Qt (fun t H d again => QV base (cAt [1,1,0,1,0,1,1,1,1,1,0,1,0,1,0,0] Qq) (Ql QT (cAt [1,1,0,1,0,1,1,1,1,1,0,1,0,1,0,0] Qq) again ((Qe 1 ((Qg (fun _ t => QV base (cAt [1,1,0,1,0,1,1,1,1,1,0,1,1] Qq) ((Qe 0 ((Qg (fun _ t => QV base (cAt [1,1,1] Qq) (QS base) (Qf QT (cAt [1,1,1] Qq) t)) (QS base))))) (Qf QT (cAt [1,1,0,1,0,1,1,1,1,1,0,1,1] Qq) t)) ((Qe 0 ((Qg (fun _ t => QV base (cAt [1,1,1] Qq) (QS base) (Qf QT (cAt [1,1,1] Qq) t)) (QS base)))))))))) t H d)) ((Qe 1 ((Qg (fun _ t => QV base (cAt [1,1,0,1,0,1,1,1,1,1,0,1,1] Qq) ((Qe 0 ((Qg (fun _ t => QV base (cAt [1,1,1] Qq) (QS base) (Qf QT (cAt [1,1,1] Qq) t)) (QS base))))) (Qf QT (cAt [1,1,0,1,0,1,1,1,1,1,0,1,1] Qq) t)) ((Qe 0 ((Qg (fun _ t => QV base (cAt [1,1,1] Qq) (QS base) (Qf QT (cAt [1,1,1] Qq) t)) (QS base))))))))))))))) [(3,t3),(4,t4),(5,t5)] H []
theorem Qrq (base : Nat) (t3 t4 t5 : V) (H : Qa) : Fw base t3 t4 t5 H =
 bnd (Qx 2 t4 t5) fun v15 =>
 bnd (Qp v15 0) fun v16 =>
 bnd (Qd false 1 H v16) fun v17 =>
 bcall (E BG [v17] H) (fun v18 h19 =>
 bnd (Qb .add 6 t3 v18) fun v20 =>
 bnd (Qb .add 6 v20 (.str [45])) fun v21 =>
 bnd (Qx 2 t4 t5) fun v22 =>
 bnd (Qp v22 1) fun v23 =>
 bnd (bnd (Qd false 1 h19 v23) fun v24 => sch (sam (Qd false 1 H v23) v24) (
 some v24)) fun v24 =>
 bcall (E BG [v24] h19) (fun v25 h26 =>
 bnd (Qb .add 6 v21 v25) fun v27 =>
 QbE base v27 t4 t5 h26)
 (fun v25 h26 => pn false base v25 h26))
 (fun v18 h19 => sch (tlb (QK t4) fun v29 => tlb (QK t5) fun v30 => tlb (Qx 2 v29 v30) fun v31 => tlb (Qp v31 1) fun v32 => tlb (Qd false 1 H v32) fun v33 => true) (pn false base v18 h19)) := by kernel_rfl
theorem Qqk (base : Nat) (t3 t4 t5 : V) (H : Qa) : PY base t3 t4 t5 H =
 bnd (QM t4) fun v11 =>
 bnd (Qb .lss 6 t5 v11) fun v12 =>
 cnd v12
 (bnd (Qb .gtr 6 t5 (.int .i64 0)) fun v13 =>
 cnd v13
 (bnd (Qb .add 6 t3 (.str [44])) fun v14 =>
 Fw base v14 t4 t5 H)
 (Fw base t3 t4 t5 H))
 (bnd (Qb .add 6 (.str [91]) t3) fun v34 =>
 bnd (Qb .add 6 v34 (.str [93])) fun v35 =>
 rt false base v35 H) := (Za (cAt [1,1,0,1,0,1,1,1,1,1,0,1,0,1,0,0] Qq) ((Qe 1 ((Qg (fun _ t => QV base (cAt [1,1,0,1,0,1,1,1,1,1,0,1,1] Qq) ((Qe 0 ((Qg (fun _ t => QV base (cAt [1,1,1] Qq) (QS base) (Qf QT (cAt [1,1,1] Qq) t)) (QS base))))) (Qf QT (cAt [1,1,0,1,0,1,1,1,1,1,0,1,1] Qq) t)) ((Qe 0 ((Qg (fun _ t => QV base (cAt [1,1,1] Qq) (QS base) (Qf QT (cAt [1,1,1] Qq) t)) (QS base))))))))) _ H []).trans (by kernel_rfl)
def PW (base : Nat) (t1 t3 t6 : V) (H : Qa) : Option (Out × Qa) :=
Qt (fun t H d again => QV base (cAt [1,1,0,1,0,1,1,1,1,1,1,1,0,0,1,0,0] Qq) (Ql QT (cAt [1,1,0,1,0,1,1,1,1,1,1,1,0,0,1,0,0] Qq) again ((Qe 3 ((Qg (fun _ t => QV base (cAt [1,1,0,1,0,1,1,1,1,1,1,1,0,1] Qq) ((Qe 0 ((Qg (fun _ t => QV base (cAt [1,1,1] Qq) (QS base) (Qf QT (cAt [1,1,1] Qq) t)) (QS base))))) (Qf QT (cAt [1,1,0,1,0,1,1,1,1,1,1,1,0,1] Qq) t)) ((Qe 0 ((Qg (fun _ t => QV base (cAt [1,1,1] Qq) (QS base) (Qf QT (cAt [1,1,1] Qq) t)) (QS base)))))))))) t H d) [(1,t1),(3,t3),(6,t6)] H []
theorem Qpx (base : Nat) (t1 t3 t6 : V) (H : Qa) : PW base t1 t3 t6 H =
 bnd (Qp t1 5) fun v37 =>
 bnd (Qd false 1 H v37) fun v38 =>
 bnd (QM v38) fun v39 =>
 bnd (Qb .lss 6 t6 v39) fun v40 =>
 cnd v40
 (bnd (Qp t1 5) fun v41 =>
 bnd (Qd false 1 H v41) fun v42 =>
 bnd (Qx 6 v42 t6) fun v43 =>
 bnd (Qd true 6 H v43) fun v44 =>
 bcall (E Wm [v44] H) (fun v45 h46 =>
 bnd (Qb .add 6 t3 v45) fun v47 =>
 bnd (Qb .add 6 t6 (.int .i64 1)) fun v48 =>
 PW base t1 v47 v48 h46)
 (fun v45 h46 => pn false base v45 h46))
 (bnd (Qb .add 6 t3 (.str [42])) fun v49 =>
 rt false base v49 H) := (Za (cAt [1,1,0,1,0,1,1,1,1,1,1,1,0,0,1,0,0] Qq) ((Qe 3 ((Qg (fun _ t => QV base (cAt [1,1,0,1,0,1,1,1,1,1,1,1,0,1] Qq) ((Qe 0 ((Qg (fun _ t => QV base (cAt [1,1,1] Qq) (QS base) (Qf QT (cAt [1,1,1] Qq) t)) (QS base))))) (Qf QT (cAt [1,1,0,1,0,1,1,1,1,1,1,1,0,1] Qq) t)) ((Qe 0 ((Qg (fun _ t => QV base (cAt [1,1,1] Qq) (QS base) (Qf QT (cAt [1,1,1] Qq) t)) (QS base))))))))) _ H []).trans (by kernel_rfl)
def Pa (base : Nat) (t1 t3 t7 : V) (H : Qa) : Option (Out × Qa) :=
Qt (fun t H d again => QV base (cAt [1,1,1,0,1,0,0] Qq) (Ql QT (cAt [1,1,1,0,1,0,0] Qq) again ((Qe 5 ((Qg (fun _ t => QV base (cAt [1,1,1,1] Qq) (QS base) (Qf QT (cAt [1,1,1,1] Qq) t)) (QS base)))))) t H d) [(1,t1),(3,t3),(7,t7)] H []
def Qho (base : Nat) (t1 t3 t7 : V) (H : Qa) : Option (Out × Qa) :=
QV base (cAt [1,1,1,0,1,0,0,1,1] Qq) ((Ql QT (cAt [1,1,1,0,1,0,0] Qq) (Qt (fun t H d again => QV base (cAt [1,1,1,0,1,0,0] Qq) (Ql QT (cAt [1,1,1,0,1,0,0] Qq) again ((Qe 5 ((Qg (fun _ t => QV base (cAt [1,1,1,1] Qq) (QS base) (Qf QT (cAt [1,1,1,1] Qq) t)) (QS base)))))) t H d)) ((Qe 5 ((Qg (fun _ t => QV base (cAt [1,1,1,1] Qq) (QS base) (Qf QT (cAt [1,1,1,1] Qq) t)) (QS base))))))) [(1,t1),(3,t3),(7,t7)] H []
theorem QmV (base : Nat) (t1 t3 t7 : V) (H : Qa) : Qho base t1 t3 t7 H =
 bnd (Qb .add 6 t7 (.int .i64 1)) fun v67 =>
 Pa base t1 t3 v67 H := by kernel_rfl
def GU (base : Nat) (t1 t3 t7 : V) (H : Qa) : Option (Out × Qa) :=
QV base (cAt [1,1,1,0,1,0,0,1,0,0,1] Qq) ((Qe 6 ((Qg (fun _ t => QV base (cAt [1,1,1,0,1,0,0,1,1] Qq) ((Ql QT (cAt [1,1,1,0,1,0,0] Qq) (Qt (fun t H d again => QV base (cAt [1,1,1,0,1,0,0] Qq) (Ql QT (cAt [1,1,1,0,1,0,0] Qq) again ((Qe 5 ((Qg (fun _ t => QV base (cAt [1,1,1,1] Qq) (QS base) (Qf QT (cAt [1,1,1,1] Qq) t)) (QS base)))))) t H d)) ((Qe 5 ((Qg (fun _ t => QV base (cAt [1,1,1,1] Qq) (QS base) (Qf QT (cAt [1,1,1,1] Qq) t)) (QS base))))))) (Qf QT (cAt [1,1,1,0,1,0,0,1,1] Qq) t)) ((Ql QT (cAt [1,1,1,0,1,0,0] Qq) (Qt (fun t H d again => QV base (cAt [1,1,1,0,1,0,0] Qq) (Ql QT (cAt [1,1,1,0,1,0,0] Qq) again ((Qe 5 ((Qg (fun _ t => QV base (cAt [1,1,1,1] Qq) (QS base) (Qf QT (cAt [1,1,1,1] Qq) t)) (QS base)))))) t H d)) ((Qe 5 ((Qg (fun _ t => QV base (cAt [1,1,1,1] Qq) (QS base) (Qf QT (cAt [1,1,1,1] Qq) t)) (QS base))))))))))) [(1,t1),(3,t3),(7,t7)] H []
theorem QmD (base : Nat) (t1 t3 t7 : V) (H : Qa) : GU base t1 t3 t7 H =
 bnd (Qp t1 5) fun v60 =>
 bnd (Qd false 1 H v60) fun v61 =>
 bnd (Qx 6 v61 t7) fun v62 =>
 bnd (Qd true 6 H v62) fun v63 =>
 bcall (E Wm [v63] H) (fun v64 h65 =>
 bnd (Qb .add 6 t3 v64) fun v66 =>
 Qho base t1 v66 t7 h65)
 (fun v64 h65 => pn false base v64 h65) := by kernel_rfl
theorem Qpg (base : Nat) (t1 t3 t7 : V) (H : Qa) : Pa base t1 t3 t7 H =
 bnd (Qp t1 5) fun v50 =>
 bnd (Qd false 1 H v50) fun v51 =>
 bnd (QM v51) fun v52 =>
 bnd (Qb .lss 6 t7 v52) fun v53 =>
 cnd v53
 (bnd (Qb .gtr 6 t7 (.int .i64 0)) fun v54 =>
 bnd (gua v54 true (Qp t1 0) (some (.tup []))) fun v55 =>
 bnd (gua v54 true (Qd false 1 H v55) (some (.tup []))) fun v56 =>
 bnd (gua v54 true (Qb .neq 6 v56 (.int .i64 3)) (some (.tup []))) fun v57 =>
 bnd (QX v54 v57 (.bool false)) fun v58 =>
 cnd v58
 (bnd (Qb .add 6 t3 (.str [124])) fun v59 =>
 GU base t1 v59 t7 H)
 (GU base t1 t3 t7 H))
 (bnd (Qp t1 0) fun v68 =>
 bnd (Qd false 1 H v68) fun v69 =>
 bnd (Qb .eql 6 v69 (.int .i64 3)) fun v70 =>
 cnd v70
 (bnd (Qb .add 6 (.str [40]) t3) fun v71 =>
 bnd (Qb .add 6 v71 (.str [41])) fun v72 =>
 rt false base v72 H)
 (bnd (Qb .add 6 (.str [123]) t3) fun v73 =>
 bnd (Qb .add 6 v73 (.str [125])) fun v74 =>
 rt false base v74 H)) := (Za (cAt [1,1,1,0,1,0,0] Qq) ((Qe 5 ((Qg (fun _ t => QV base (cAt [1,1,1,1] Qq) (QS base) (Qf QT (cAt [1,1,1,1] Qq) t)) (QS base))))) _ H []).trans (by kernel_rfl)
def QhK (base : Nat) (t0 : V) (H : Qa) : Option (Out × Qa) := QV base Qq (QS base) [(0,t0)] H []
theorem Qlg (base : Nat) (t0 : V) (H : Qa) : QhK base t0 H =
 beff (QB H t0) fun v0 h1 =>
 bnd (Qp v0 0) fun v2 =>
 bnd (Qd false 1 h1 v2) fun v3 =>
 bnd (Qb .eql 6 v3 (.int .i64 0)) fun v4 =>
 cnd v4
 (rt false base (.str [48]) h1)
 (bnd (Qb .eql 6 v3 (.int .i64 1)) fun v5 =>
 cnd v5
 (rt false base (.str [49]) h1)
 (bnd (Qb .eql 6 v3 (.int .i64 2)) fun v6 =>
 cnd v6
 (bnd (Qp v0 1) fun v7 =>
 bnd (Qd true 4 h1 v7) fun v8 =>
 bcall (E Ce [v8] h1) (fun v9 h10 =>
 PY base (.str []) v9 (.int .i64 0) h10)
 (fun v9 h10 => pn false base v9 h10))
 (bnd (Qb .eql 6 v3 (.int .i64 5)) fun v36 =>
 cnd v36
 (PW base v0 (.str []) (.int .i64 0) h1)
 (Pa base v0 (.str []) (.int .i64 0) h1)))) := by kernel_rfl
theorem Qic (t0 : V) (H : Qa) : E Wm [t0] H = QhK H.length t0 H := (QR Tryd.func56 (by kernel_rfl) (by kernel_rfl) (by kernel_rfl)).trans (by kernel_rfl)
def Vv : Code := QO Tryd.f59
def EE : Ks := [(2,[2,4,7,8])]
def R1 (base : Nat) : KC (Out × Qa) := QN Tryd.prog D false base 20 Tryd.f59.results.toList
def Ps (base : Nat) (c : Code) (k : KC (Out × Qa)) (t : Ts) (H : Qa) (d : Ds) : Option (Out × Qa) := xC Tryd.prog base false EE E 20 c k t H d
def Dl (base : Nat) (t2 t4 t7 t8 : V) (H : Qa) : Option (Out × Qa) :=
Qt (fun t H d again => Ps base (cAt [1,0,1,0,0] Vv) (Ql EE (cAt [1,0,1,0,0] Vv) again ((Qe 0 ((Qg (fun _ t => Ps base (cAt [1,1] Vv) (R1 base) (Qf EE (cAt [1,1] Vv) t)) (R1 base)))))) t H d) [(2,t2),(4,t4),(7,t7),(8,t8)] H []
theorem NF (base : Nat) (t2 t4 t7 t8 : V) (H : Qa) : Dl base t2 t4 t7 t8 H =
 bnd (Qb .lss 6 t8 (.int .i64 4)) fun v7 =>
 cnd v7
 (bnd (Fq 4 false 1 t7 t8) fun v8 =>
 bnd (K4 4 1 t2 t8) fun v9 =>
 bnd (Qd false 1 H v9) fun v10 =>
 bnd (Qb .or 6 v10 v8) fun v11 =>
 bnd (K4 4 1 t2 t8) fun v12 =>
 beff (Qs base 1 H v12 v11) fun v13 h14 =>
 bnd (Qb .add 6 t8 (.int .i64 1)) fun v15 =>
 Dl base t2 t4 t7 v15 h14)
 (bnd (Qd true 4 H t2) fun v16 =>
 beff (Qs base 4 H t4 v16) fun v17 h18 =>
 bnd (Qd true 4 h18 t4) fun v19 =>
 rt false base v19 h18) := (Za (cAt [1,0,1,0,0] Vv) ((Qe 0 ((Qg (fun _ t => Ps base (cAt [1,1] Vv) (R1 base) (Qf EE (cAt [1,1] Vv) t)) (R1 base))))) _ H []).trans (by kernel_rfl)
def XA (base : Nat) (t0 t1 : V) (H : Qa) : Option (Out × Qa) := Ps base Vv (R1 base) [(0,t0),(1,t1)] H []
theorem QjT (base : Nat) (t0 t1 : V) (H : Qa) : XA base t0 t1 H =
 beff (QB H t0) fun v0 h1 =>
 beff (QB h1 t1) fun v2 h3 =>
 beff (QB h3 (.agg [(.int .u64 0),(.int .u64 0),(.int .u64 0),(.int .u64 0)])) fun v4 h5 =>
 bnd (Qd true 4 h5 v2) fun v6 =>
 Dl base v0 v4 v6 (.int .i64 0) h5 := by kernel_rfl
theorem Qmj (t0 t1 : V) (H : Qa) : E AM [t0,t1] H = XA H.length t0 t1 H := (QR Tryd.func59 (by kernel_rfl) (by kernel_rfl) (by kernel_rfl)).trans (by kernel_rfl)
end
end Go.Proofs.YtdnmpaielmfiiaaDoor
end
