/- Fn2: a part of the proof that each law of this seat answers true at every input. No condition. -/
import Derived.Test.YtdnmpaielmfiiaaDoorHint
import Derived.KernelRfl
set_option linter.unusedVariables false
set_option linter.unusedSimpArgs false
set_option maxRecDepth 20000
section
namespace Go.Proofs.YtdnmpaielmfiiaaDoor
open Go Go.Ev
noncomputable section
def VN : Code := QO Tryd.f35
def FL : Ks := [(3,[0,1,5,6])]
def Mi (base : Nat) : KC (Out × Qa) := QP Tryd.prog D false base 31 Tryd.f35.results.toList
def FX (base : Nat) (c : Code) (k : KC (Out × Qa)) (t : Ts) (H : Qa) (d : Ds) : Option (Out × Qa) := xC Tryd.prog base false FL E 31 c k t H d
def Lp (base : Nat) (t0 t1 t5 t6 : V) (H : Qa) : Option (Out × Qa) :=
Qt (fun t H d again => FX base (cAt [1,1,0,1,0,0] VN) (Ql FL (cAt [1,1,0,1,0,0] VN) again ((Qe 0 ((Qg (fun _ t => FX base (cAt [1,1,1] VN) (Mi base) (Qf FL (cAt [1,1,1] VN) t)) (Mi base)))))) t H d) [(0,t0),(1,t1),(5,t5),(6,t6)] H []
theorem Aa (base : Nat) (t0 t1 t5 t6 : V) (H : Qa) : Lp base t0 t1 t5 t6 H =
 bnd (QM t0) fun v0 =>
 bnd (Qb .lss 6 t6 v0) fun v1 =>
 bnd (gua v1 true (QL t6) (some (.tup []))) fun v2 =>
 bnd (gua v1 true (Qb .lss 6 v2 (.int .i64 14)) (some (.tup []))) fun v3 =>
 bnd (QY v1 v3 (.bool false)) fun v4 =>
 cnd v4
 (bnd (Qx 1 t0 t6) fun v5 =>
 bnd (Qc false 1 H v5) fun v6 =>
 bnd (Yc .i64 v6) fun v7 =>
 bnd (QM t1) fun v8 =>
 bnd (Qb .rem 6 v7 v8) fun v9 =>
 bnd (Qx 1 t1 v9) fun v10 =>
 bnd (Qc false 1 H v10) fun v11 =>
 bnd (Qb .add 6 t5 v11) fun v12 =>
 bnd (Qb .add 6 t6 (.int .i64 1)) fun v13 =>
 Lp base t0 t1 v12 v13 H)
 (rt false base t5 H) := (Za (cAt [1,1,0,1,0,0] VN) ((Qe 0 ((Qg (fun _ t => FX base (cAt [1,1,1] VN) (Mi base) (Qf FL (cAt [1,1,1] VN) t)) (Mi base))))) _ H []).trans (by kernel_rfl)
def QaL (base : Nat) (t0 t1 : V) (H : Qa) : Option (Out × Qa) := FX base VN (Mi base) [(0,t0),(1,t1)] H []
theorem QjO (base : Nat) (t0 t1 : V) (H : Qa) : QaL base t0 t1 H =
 Lp base t0 t1 (.str []) (.int .i64 0) H := by kernel_rfl
theorem Qmg (t0 t1 : V) (H : Qa) : E DY [t0,t1] H = QaL H.length t0 t1 H := (QR Tryd.func35 (by kernel_rfl) (by kernel_rfl) (by kernel_rfl)).trans (by kernel_rfl)
def Lc : Code := QO Tryd.f36
def Qri : Ks := [(7,[1,2,3,7,8]),(13,[1,3,7,9]),(18,[1,2,3,7,10]),(22,[1,2,3,7,10,11,12]),(28,[1,3,7,13]),(32,[1,3,7,13,14,15]),(35,[7])]
def Qrj (base : Nat) : KC (Out × Qa) := QP Tryd.prog D false base 152 Tryd.f36.results.toList
def Qrk (base : Nat) (c : Code) (k : KC (Out × Qa)) (t : Ts) (H : Qa) (d : Ds) : Option (Out × Qa) := xC Tryd.prog base false Qri E 152 c k t H d
def Qrr (base : Nat) (t7 : V) (H : Qa) : Option (Out × Qa) :=
Qrk base (cAt [1,1,1] Lc) (Qrj base) [(7,t7)] H []
theorem QrJ (base : Nat) (t7 : V) (H : Qa) : Qrr base t7 H =
 rt false base t7 H := by kernel_rfl
def QrL (base : Nat) (t1 t2 t3 t7 t8 : V) (H : Qa) : Option (Out × Qa) :=
Qt (fun t H d again => Qrk base (cAt [1,1,0,1,0,1,1,1,0,1,0,0] Lc) (Ql Qri (cAt [1,1,0,1,0,1,1,1,0,1,0,0] Lc) again ((Qe 1 ((Qe 0 ((Qg (fun _ t => Qrk base (cAt [1,1,1] Lc) (Qrj base) (Qf Qri (cAt [1,1,1] Lc) t)) (Qrj base)))))))) t H d) [(1,t1),(2,t2),(3,t3),(7,t7),(8,t8)] H []
theorem QsG (base : Nat) (t1 t2 t3 t7 t8 : V) (H : Qa) : QrL base t1 t2 t3 t7 t8 H =
 bnd (Us t1) fun v12 =>
 bnd (Qb .lss 6 t8 v12) fun v13 =>
 cnd v13
 (bnd (Qb .add 6 t8 (.int .i64 1)) fun v14 =>
 bnd (Qx 1 t2 t8) fun v15 =>
 bnd (Qc false 1 H v15) fun v16 =>
 bnd (gua v16 true (Qq t3 1) (some (.tup []))) fun v17 =>
 bnd (gua v16 true (Qc true 4 H v17) (some (.tup []))) fun v18 =>
 bnd (gua v16 true (QL t1) (some (.tup []))) fun v19 =>
 bnd (gua v16 true (QL t8) (some (.tup []))) fun v20 =>
 bnd (gua v16 true (KE v19 v20) (some (.tup []))) fun v21 =>
 bnd (gua v16 true (Yc .i64 v21) (some (.tup []))) fun v22 =>
 bcall (gua v16 true (E Vy [v18,v22] H) (some (.ret (.tup []),H))) (fun v23 h24 =>
 bnd (QY v16 v23 (.bool false)) fun v25 =>
 bnd (Qx 1 t7 v14) fun v26 =>
 beff (Qs base 1 h24 v26 v25) fun v27 h28 =>
 bnd (Qb .add 6 t8 (.int .i64 1)) fun v29 =>
 QrL base t1 t2 t3 t7 v29 h28)
 (fun v23 h24 => pn false base v23 h24))
 (Qrr base t7 H) := (Za (cAt [1,1,0,1,0,1,1,1,0,1,0,0] Lc) ((Qe 1 ((Qe 0 ((Qg (fun _ t => Qrk base (cAt [1,1,1] Lc) (Qrj base) (Qf Qri (cAt [1,1,1] Lc) t)) (Qrj base))))))) _ H []).trans (by kernel_rfl)
def QrQ (base : Nat) (t1 t3 t7 t9 : V) (H : Qa) : Option (Out × Qa) :=
Qt (fun t H d again => Qrk base (cAt [1,1,0,1,0,1,1,1,1,1,0,1,1,0,0] Lc) (Ql Qri (cAt [1,1,0,1,0,1,1,1,1,1,0,1,1,0,0] Lc) again ((Qe 3 ((Qe 0 ((Qg (fun _ t => Qrk base (cAt [1,1,1] Lc) (Qrj base) (Qf Qri (cAt [1,1,1] Lc) t)) (Qrj base)))))))) t H d) [(1,t1),(3,t3),(7,t7),(9,t9)] H []
theorem QsP (base : Nat) (t1 t3 t7 t9 : V) (H : Qa) : QrQ base t1 t3 t7 t9 H =
 bnd (Qq t3 5) fun v33 =>
 bnd (Qc false 1 H v33) fun v34 =>
 bnd (QM v34) fun v35 =>
 bnd (Qb .lss 6 t9 v35) fun v36 =>
 cnd v36
 (bnd (Qq t3 5) fun v37 =>
 bnd (Qc false 1 H v37) fun v38 =>
 bnd (Qx 6 v38 t9) fun v39 =>
 bnd (Qc true 6 H v39) fun v40 =>
 bcall (E QrB [v40,t1,t7] H) (fun v41 h42 =>
 bnd (Qb .add 6 t9 (.int .i64 1)) fun v43 =>
 QrQ base t1 t3 v41 v43 h42)
 (fun v41 h42 => pn false base v41 h42))
 (Qrr base t7 H) := (Za (cAt [1,1,0,1,0,1,1,1,1,1,0,1,1,0,0] Lc) ((Qe 3 ((Qe 0 ((Qg (fun _ t => Qrk base (cAt [1,1,1] Lc) (Qrj base) (Qf Qri (cAt [1,1,1] Lc) t)) (Qrj base))))))) _ H []).trans (by kernel_rfl)
def QrO (base : Nat) (t1 t2 t3 t7 t10 : V) (H : Qa) : Option (Out × Qa) :=
Qt (fun t H d again => Qrk base (cAt [1,1,0,1,0,1,1,1,1,1,1,1,0,1,0,0] Lc) (Ql Qri (cAt [1,1,0,1,0,1,1,1,1,1,1,1,0,1,0,0] Lc) again ((Qe 5 ((Qe 0 ((Qg (fun _ t => Qrk base (cAt [1,1,1] Lc) (Qrj base) (Qf Qri (cAt [1,1,1] Lc) t)) (Qrj base)))))))) t H d) [(1,t1),(2,t2),(3,t3),(7,t7),(10,t10)] H []
def Qr8 (base : Nat) (t1 t2 t3 t7 t10 t11 t12 : V) (H : Qa) : Option (Out × Qa) :=
Qt (fun t H d again => Qrk base (cAt [1,1,0,1,0,1,1,1,1,1,1,1,0,1,0,0,1,0,0,1,1,0,0] Lc) (Ql Qri (cAt [1,1,0,1,0,1,1,1,1,1,1,1,0,1,0,0,1,0,0,1,1,0,0] Lc) again ((Qe 7 ((Qe 6 ((Qg (fun _ t => Qrk base (cAt [1,1,0,1,0,1,1,1,1,1,1,1,0,1,0,0,1,1] Lc) ((Ql Qri (cAt [1,1,0,1,0,1,1,1,1,1,1,1,0,1,0,0] Lc) (Qt (fun t H d again => Qrk base (cAt [1,1,0,1,0,1,1,1,1,1,1,1,0,1,0,0] Lc) (Ql Qri (cAt [1,1,0,1,0,1,1,1,1,1,1,1,0,1,0,0] Lc) again ((Qe 5 ((Qe 0 ((Qg (fun _ t => Qrk base (cAt [1,1,1] Lc) (Qrj base) (Qf Qri (cAt [1,1,1] Lc) t)) (Qrj base)))))))) t H d)) ((Qe 5 ((Qe 0 ((Qg (fun _ t => Qrk base (cAt [1,1,1] Lc) (Qrj base) (Qf Qri (cAt [1,1,1] Lc) t)) (Qrj base))))))))) (Qf Qri (cAt [1,1,0,1,0,1,1,1,1,1,1,1,0,1,0,0,1,1] Lc) t)) ((Ql Qri (cAt [1,1,0,1,0,1,1,1,1,1,1,1,0,1,0,0] Lc) (Qt (fun t H d again => Qrk base (cAt [1,1,0,1,0,1,1,1,1,1,1,1,0,1,0,0] Lc) (Ql Qri (cAt [1,1,0,1,0,1,1,1,1,1,1,1,0,1,0,0] Lc) again ((Qe 5 ((Qe 0 ((Qg (fun _ t => Qrk base (cAt [1,1,1] Lc) (Qrj base) (Qf Qri (cAt [1,1,1] Lc) t)) (Qrj base)))))))) t H d)) ((Qe 5 ((Qe 0 ((Qg (fun _ t => Qrk base (cAt [1,1,1] Lc) (Qrj base) (Qf Qri (cAt [1,1,1] Lc) t)) (Qrj base)))))))))))))))) t H d) [(1,t1),(2,t2),(3,t3),(7,t7),(10,t10),(11,t11),(12,t12)] H []
theorem Qs6 (base : Nat) (t1 t2 t3 t7 t10 t11 t12 : V) (H : Qa) : Qr8 base t1 t2 t3 t7 t10 t11 t12 H =
 bnd (QM t11) fun v55 =>
 bnd (Qb .lss 6 t12 v55) fun v56 =>
 cnd v56
 (bnd (Qx 1 t7 t12) fun v57 =>
 bnd (Qc false 1 H v57) fun v58 =>
 bnd (gua v58 false (QL t11) (some (.tup []))) fun v59 =>
 bnd (gua v58 false (QL t12) (some (.tup []))) fun v60 =>
 bnd (gua v58 false (Qx 1 v59 v60) (some (.tup []))) fun v61 =>
 bnd (gua v58 false (Qc false 1 H v61) (some (.tup []))) fun v62 =>
 bnd (QY v58 (.bool true) v62) fun v63 =>
 bnd (Qx 1 t7 t12) fun v64 =>
 beff (Qs base 1 H v64 v63) fun v65 h66 =>
 bnd (Qb .add 6 t12 (.int .i64 1)) fun v67 =>
 Qr8 base t1 t2 t3 t7 t10 t11 v67 h66)
 (bnd (Qb .add 6 t10 (.int .i64 1)) fun v68 =>
 QrO base t1 t2 t3 t7 v68 H) := (Za (cAt [1,1,0,1,0,1,1,1,1,1,1,1,0,1,0,0,1,0,0,1,1,0,0] Lc) ((Qe 7 ((Qe 6 ((Qg (fun _ t => Qrk base (cAt [1,1,0,1,0,1,1,1,1,1,1,1,0,1,0,0,1,1] Lc) ((Ql Qri (cAt [1,1,0,1,0,1,1,1,1,1,1,1,0,1,0,0] Lc) (Qt (fun t H d again => Qrk base (cAt [1,1,0,1,0,1,1,1,1,1,1,1,0,1,0,0] Lc) (Ql Qri (cAt [1,1,0,1,0,1,1,1,1,1,1,1,0,1,0,0] Lc) again ((Qe 5 ((Qe 0 ((Qg (fun _ t => Qrk base (cAt [1,1,1] Lc) (Qrj base) (Qf Qri (cAt [1,1,1] Lc) t)) (Qrj base)))))))) t H d)) ((Qe 5 ((Qe 0 ((Qg (fun _ t => Qrk base (cAt [1,1,1] Lc) (Qrj base) (Qf Qri (cAt [1,1,1] Lc) t)) (Qrj base))))))))) (Qf Qri (cAt [1,1,0,1,0,1,1,1,1,1,1,1,0,1,0,0,1,1] Lc) t)) ((Ql Qri (cAt [1,1,0,1,0,1,1,1,1,1,1,1,0,1,0,0] Lc) (Qt (fun t H d again => Qrk base (cAt [1,1,0,1,0,1,1,1,1,1,1,1,0,1,0,0] Lc) (Ql Qri (cAt [1,1,0,1,0,1,1,1,1,1,1,1,0,1,0,0] Lc) again ((Qe 5 ((Qe 0 ((Qg (fun _ t => Qrk base (cAt [1,1,1] Lc) (Qrj base) (Qf Qri (cAt [1,1,1] Lc) t)) (Qrj base)))))))) t H d)) ((Qe 5 ((Qe 0 ((Qg (fun _ t => Qrk base (cAt [1,1,1] Lc) (Qrj base) (Qf Qri (cAt [1,1,1] Lc) t)) (Qrj base))))))))))))))) _ H []).trans (by kernel_rfl)
theorem QsE (base : Nat) (t1 t2 t3 t7 t10 : V) (H : Qa) : QrO base t1 t2 t3 t7 t10 H =
 bnd (Qq t3 5) fun v45 =>
 bnd (Qc false 1 H v45) fun v46 =>
 bnd (QM v46) fun v47 =>
 bnd (Qb .lss 6 t10 v47) fun v48 =>
 cnd v48
 (bnd (Qq t3 5) fun v49 =>
 bnd (Qc false 1 H v49) fun v50 =>
 bnd (Qx 6 v50 t10) fun v51 =>
 bnd (Qc true 6 H v51) fun v52 =>
 bcall (E QrB [v52,t1,t2] H) (fun v53 h54 =>
 Qr8 base t1 t2 t3 t7 t10 v53 (.int .i64 0) h54)
 (fun v53 h54 => pn false base v53 h54))
 (Qrr base t7 H) := (Za (cAt [1,1,0,1,0,1,1,1,1,1,1,1,0,1,0,0] Lc) ((Qe 5 ((Qe 0 ((Qg (fun _ t => Qrk base (cAt [1,1,1] Lc) (Qrj base) (Qf Qri (cAt [1,1,1] Lc) t)) (Qrj base))))))) _ H []).trans (by kernel_rfl)
def QrE (base : Nat) (t1 t3 t7 t13 : V) (H : Qa) : Option (Out × Qa) :=
Qt (fun t H d again => Qrk base (cAt [1,1,0,1,0,1,1,1,1,1,1,1,1,1,0,1,1,0,0] Lc) (Ql Qri (cAt [1,1,0,1,0,1,1,1,1,1,1,1,1,1,0,1,1,0,0] Lc) again ((Qe 9 ((Qe 0 ((Qg (fun _ t => Qrk base (cAt [1,1,1] Lc) (Qrj base) (Qf Qri (cAt [1,1,1] Lc) t)) (Qrj base)))))))) t H d) [(1,t1),(3,t3),(7,t7),(13,t13)] H []
def Qr0 (base : Nat) (t1 t3 t7 t13 t14 t15 : V) (H : Qa) : Option (Out × Qa) :=
Qt (fun t H d again => Qrk base (cAt [1,1,0,1,0,1,1,1,1,1,1,1,1,1,0,1,1,0,0,1,0,0,1,1,0,0] Lc) (Ql Qri (cAt [1,1,0,1,0,1,1,1,1,1,1,1,1,1,0,1,1,0,0,1,0,0,1,1,0,0] Lc) again ((Qe 11 ((Qe 10 ((Qg (fun _ t => Qrk base (cAt [1,1,0,1,0,1,1,1,1,1,1,1,1,1,0,1,1,0,0,1,1] Lc) ((Ql Qri (cAt [1,1,0,1,0,1,1,1,1,1,1,1,1,1,0,1,1,0,0] Lc) (Qt (fun t H d again => Qrk base (cAt [1,1,0,1,0,1,1,1,1,1,1,1,1,1,0,1,1,0,0] Lc) (Ql Qri (cAt [1,1,0,1,0,1,1,1,1,1,1,1,1,1,0,1,1,0,0] Lc) again ((Qe 9 ((Qe 0 ((Qg (fun _ t => Qrk base (cAt [1,1,1] Lc) (Qrj base) (Qf Qri (cAt [1,1,1] Lc) t)) (Qrj base)))))))) t H d)) ((Qe 9 ((Qe 0 ((Qg (fun _ t => Qrk base (cAt [1,1,1] Lc) (Qrj base) (Qf Qri (cAt [1,1,1] Lc) t)) (Qrj base))))))))) (Qf Qri (cAt [1,1,0,1,0,1,1,1,1,1,1,1,1,1,0,1,1,0,0,1,1] Lc) t)) ((Ql Qri (cAt [1,1,0,1,0,1,1,1,1,1,1,1,1,1,0,1,1,0,0] Lc) (Qt (fun t H d again => Qrk base (cAt [1,1,0,1,0,1,1,1,1,1,1,1,1,1,0,1,1,0,0] Lc) (Ql Qri (cAt [1,1,0,1,0,1,1,1,1,1,1,1,1,1,0,1,1,0,0] Lc) again ((Qe 9 ((Qe 0 ((Qg (fun _ t => Qrk base (cAt [1,1,1] Lc) (Qrj base) (Qf Qri (cAt [1,1,1] Lc) t)) (Qrj base)))))))) t H d)) ((Qe 9 ((Qe 0 ((Qg (fun _ t => Qrk base (cAt [1,1,1] Lc) (Qrj base) (Qf Qri (cAt [1,1,1] Lc) t)) (Qrj base)))))))))))))))) t H d) [(1,t1),(3,t3),(7,t7),(13,t13),(14,t14),(15,t15)] H []
theorem QsY (base : Nat) (t1 t3 t7 t13 t14 t15 : V) (H : Qa) : Qr0 base t1 t3 t7 t13 t14 t15 H =
 bnd (QM t14) fun v85 =>
 bnd (Qb .lss 6 t15 v85) fun v86 =>
 cnd v86
 (bnd (Qx 1 t7 t15) fun v87 =>
 bnd (Qc false 1 H v87) fun v88 =>
 bnd (gua v88 false (QL t14) (some (.tup []))) fun v89 =>
 bnd (gua v88 false (QL t15) (some (.tup []))) fun v90 =>
 bnd (gua v88 false (Qx 1 v89 v90) (some (.tup []))) fun v91 =>
 bnd (gua v88 false (Qc false 1 H v91) (some (.tup []))) fun v92 =>
 bnd (QY v88 (.bool true) v92) fun v93 =>
 bnd (Qx 1 t7 t15) fun v94 =>
 beff (Qs base 1 H v94 v93) fun v95 h96 =>
 bnd (Qb .add 6 t15 (.int .i64 1)) fun v97 =>
 Qr0 base t1 t3 t7 t13 t14 v97 h96)
 (bnd (Qb .add 6 t13 (.int .i64 1)) fun v98 =>
 QrE base t1 t3 t7 v98 H) := (Za (cAt [1,1,0,1,0,1,1,1,1,1,1,1,1,1,0,1,1,0,0,1,0,0,1,1,0,0] Lc) ((Qe 11 ((Qe 10 ((Qg (fun _ t => Qrk base (cAt [1,1,0,1,0,1,1,1,1,1,1,1,1,1,0,1,1,0,0,1,1] Lc) ((Ql Qri (cAt [1,1,0,1,0,1,1,1,1,1,1,1,1,1,0,1,1,0,0] Lc) (Qt (fun t H d again => Qrk base (cAt [1,1,0,1,0,1,1,1,1,1,1,1,1,1,0,1,1,0,0] Lc) (Ql Qri (cAt [1,1,0,1,0,1,1,1,1,1,1,1,1,1,0,1,1,0,0] Lc) again ((Qe 9 ((Qe 0 ((Qg (fun _ t => Qrk base (cAt [1,1,1] Lc) (Qrj base) (Qf Qri (cAt [1,1,1] Lc) t)) (Qrj base)))))))) t H d)) ((Qe 9 ((Qe 0 ((Qg (fun _ t => Qrk base (cAt [1,1,1] Lc) (Qrj base) (Qf Qri (cAt [1,1,1] Lc) t)) (Qrj base))))))))) (Qf Qri (cAt [1,1,0,1,0,1,1,1,1,1,1,1,1,1,0,1,1,0,0,1,1] Lc) t)) ((Ql Qri (cAt [1,1,0,1,0,1,1,1,1,1,1,1,1,1,0,1,1,0,0] Lc) (Qt (fun t H d again => Qrk base (cAt [1,1,0,1,0,1,1,1,1,1,1,1,1,1,0,1,1,0,0] Lc) (Ql Qri (cAt [1,1,0,1,0,1,1,1,1,1,1,1,1,1,0,1,1,0,0] Lc) again ((Qe 9 ((Qe 0 ((Qg (fun _ t => Qrk base (cAt [1,1,1] Lc) (Qrj base) (Qf Qri (cAt [1,1,1] Lc) t)) (Qrj base)))))))) t H d)) ((Qe 9 ((Qe 0 ((Qg (fun _ t => Qrk base (cAt [1,1,1] Lc) (Qrj base) (Qf Qri (cAt [1,1,1] Lc) t)) (Qrj base))))))))))))))) _ H []).trans (by kernel_rfl)
theorem Qs7 (base : Nat) (t1 t3 t7 t13 : V) (H : Qa) : QrE base t1 t3 t7 t13 H =
 bnd (Us t1) fun v72 =>
 bnd (Qb .leq 6 t13 v72) fun v73 =>
 bnd (gua v73 true (Qq t3 5) (some (.tup []))) fun v74 =>
 bnd (gua v73 true (Qc false 1 H v74) (some (.tup []))) fun v75 =>
 bnd (gua v73 true (QM v75) (some (.tup []))) fun v76 =>
 bnd (gua v73 true (Qb .eql 6 v76 (.int .i64 1)) (some (.tup []))) fun v77 =>
 bnd (QY v73 v77 (.bool false)) fun v78 =>
 cnd v78
 (bnd (Qq t3 5) fun v79 =>
 bnd (Qc false 1 H v79) fun v80 =>
 bnd (Qx 6 v80 (.int .i64 0)) fun v81 =>
 bnd (Qc true 6 H v81) fun v82 =>
 bcall (E QrB [v82,t1,t7] H) (fun v83 h84 =>
 Qr0 base t1 t3 t7 t13 v83 (.int .i64 0) h84)
 (fun v83 h84 => pn false base v83 h84))
 (Qrr base t7 H) := (Za (cAt [1,1,0,1,0,1,1,1,1,1,1,1,1,1,0,1,1,0,0] Lc) ((Qe 9 ((Qe 0 ((Qg (fun _ t => Qrk base (cAt [1,1,1] Lc) (Qrj base) (Qf Qri (cAt [1,1,1] Lc) t)) (Qrj base))))))) _ H []).trans (by kernel_rfl)
def Qs0 (base : Nat) (t0 t1 t2 : V) (H : Qa) : Option (Out × Qa) := Qrk base Lc (Qrj base) [(0,t0),(1,t1),(2,t2)] H []
theorem QrA (base : Nat) (t0 t1 t2 : V) (H : Qa) : Qs0 base t0 t1 t2 H =
 beff (QD H t0) fun v0 h1 =>
 bnd (Us t1) fun v2 =>
 bnd (Qb .add 6 v2 (.int .i64 1)) fun v3 =>
 beff (R5 1 false 1 [(.bool false)] v3 v3 h1) fun v4 h5 =>
 bnd (Qq v0 0) fun v6 =>
 bnd (Qc false 1 h5 v6) fun v7 =>
 bnd (Qb .eql 6 v7 (.int .i64 1)) fun v8 =>
 cnd v8
 (beff (Qd7 base 1 v4 t2 h5) fun v9 h10 =>
 Qrr base v4 h10)
 (bnd (Qb .eql 6 v7 (.int .i64 2)) fun v11 =>
 cnd v11
 (QrL base t1 t2 v0 v4 (.int .i64 0) h5)
 (bnd (Qb .eql 6 v7 (.int .i64 3)) fun v30 =>
 cnd v30
 (beff (Qd7 base 1 v4 t2 h5) fun v31 h32 =>
 QrQ base t1 v0 v4 (.int .i64 0) h32)
 (bnd (Qb .eql 6 v7 (.int .i64 4)) fun v44 =>
 cnd v44
 (QrO base t1 t2 v0 v4 (.int .i64 0) h5)
 (bnd (Qb .eql 6 v7 (.int .i64 5)) fun v69 =>
 cnd v69
 (beff (Qd7 base 1 v4 t2 h5) fun v70 h71 =>
 QrE base t1 v0 v4 (.int .i64 0) h71)
 (Qrr base v4 h5))))) := by kernel_rfl
theorem Qrz (t0 t1 t2 : V) (H : Qa) : E QrB [t0,t1,t2] H = Qs0 H.length t0 t1 t2 H := (QR Tryd.func36 (by kernel_rfl) (by kernel_rfl) (by kernel_rfl)).trans (by kernel_rfl)
def YU : Code := QO Tryd.f37
def V3 : Ks := [(3,[0,1,5,6]),(4,[0,1,5,6])]
def Wp (base : Nat) : KC (Out × Qa) := QP Tryd.prog D false base 35 Tryd.f37.results.toList
def VP (base : Nat) (c : Code) (k : KC (Out × Qa)) (t : Ts) (H : Qa) (d : Ds) : Option (Out × Qa) := xC Tryd.prog base false V3 E 35 c k t H d
def NC (base : Nat) (t0 t1 t5 t6 : V) (H : Qa) : Option (Out × Qa) :=
Qt (fun t H d again => VP base (cAt [1,1,0,1,0,0] YU) (Ql V3 (cAt [1,1,0,1,0,0] YU) again ((Qe 0 ((Qg (fun _ t => VP base (cAt [1,1,1] YU) (Wp base) (Qf V3 (cAt [1,1,1] YU) t)) (Wp base)))))) t H d) [(0,t0),(1,t1),(5,t5),(6,t6)] H []
def FZ (base : Nat) (t0 t1 t5 t6 : V) (H : Qa) : Option (Out × Qa) :=
VP base (cAt [1,1,0,1,0,0,1,1] YU) ((Ql V3 (cAt [1,1,0,1,0,0] YU) (Qt (fun t H d again => VP base (cAt [1,1,0,1,0,0] YU) (Ql V3 (cAt [1,1,0,1,0,0] YU) again ((Qe 0 ((Qg (fun _ t => VP base (cAt [1,1,1] YU) (Wp base) (Qf V3 (cAt [1,1,1] YU) t)) (Wp base)))))) t H d)) ((Qe 0 ((Qg (fun _ t => VP base (cAt [1,1,1] YU) (Wp base) (Qf V3 (cAt [1,1,1] YU) t)) (Wp base))))))) [(0,t0),(1,t1),(5,t5),(6,t6)] H []
theorem QpJ (base : Nat) (t0 t1 t5 t6 : V) (H : Qa) : FZ base t0 t1 t5 t6 H =
 bnd (Qb .add 6 t6 (.int .i64 1)) fun v11 =>
 NC base t0 t1 t5 v11 H := by kernel_rfl
theorem Qj9 (base : Nat) (t0 t1 t5 t6 : V) (H : Qa) : NC base t0 t1 t5 t6 H =
 bnd (QM t0) fun v0 =>
 bnd (Qb .lss 6 t6 v0) fun v1 =>
 cnd v1
 (bnd (Qx 6 t0 t6) fun v2 =>
 bnd (Qq v2 0) fun v3 =>
 bnd (Qc false 1 H v3) fun v4 =>
 bnd (Qb .eql 6 v4 t1) fun v5 =>
 cnd v5
 (bnd (Qx 6 t0 t6) fun v6 =>
 bnd (Qq v6 5) fun v7 =>
 bnd (Qc false 1 H v7) fun v8 =>
 beff (Z1 base 6 64 true t5 v8 H) fun v9 h10 =>
 FZ base t0 t1 v9 t6 h10)
 (bnd (Qx 6 t0 t6) fun v12 =>
 bnd (Qc true 6 H v12) fun v13 =>
 bnd (Zq 6 1 (.agg [(.int .i64 0),(.int .u64 0),(.int .u64 0),(.int .u64 0),(.int .u64 0),(.vs [])]) [(0,v13)]) fun v14 =>
 beff (Z1 base 6 64 true t5 v14 H) fun v15 h16 =>
 FZ base t0 t1 v15 t6 h16))
 (rt false base t5 H) := (Za (cAt [1,1,0,1,0,0] YU) ((Qe 0 ((Qg (fun _ t => VP base (cAt [1,1,1] YU) (Wp base) (Qf V3 (cAt [1,1,1] YU) t)) (Wp base))))) _ H []).trans (by kernel_rfl)
def QeI (base : Nat) (t0 t1 : V) (H : Qa) : Option (Out × Qa) := VP base YU (Wp base) [(0,t0),(1,t1)] H []
theorem Qqd (base : Nat) (t0 t1 : V) (H : Qa) : QeI base t0 t1 H =
 NC base t0 t1 .nils (.int .i64 0) H := by kernel_rfl
theorem QqF (t0 t1 : V) (H : Qa) : E Ge [t0,t1] H = QeI H.length t0 t1 H := (QR Tryd.func37 (by kernel_rfl) (by kernel_rfl) (by kernel_rfl)).trans (by kernel_rfl)
def Ql1 : Code := QO Tryd.f38
def QoO : Ks := []
def Qif (base : Nat) : KC (Out × Qa) := QP Tryd.prog D false base 14 Tryd.f38.results.toList
def Qli (base : Nat) (c : Code) (k : KC (Out × Qa)) (t : Ts) (H : Qa) (d : Ds) : Option (Out × Qa) := xC Tryd.prog base false QoO E 14 c k t H d
def Tx (base : Nat) (t0 t1 : V) (H : Qa) : Option (Out × Qa) := Qli base Ql1 (Qif base) [(0,t0),(1,t1)] H []
theorem QnL (base : Nat) (t0 t1 : V) (H : Qa) : Tx base t0 t1 H =
 beff (QD H (.agg [(.int .i64 0),(.int .u64 0),(.int .u64 0),(.int .u64 0),(.int .u64 0),.nils])) fun v0 h1 =>
 bnd (QM t0) fun v2 =>
 bnd (Qb .eql 6 v2 (.int .i64 1)) fun v3 =>
 cnd v3
 (bnd (Qx 6 t0 (.int .i64 0)) fun v4 =>
 bnd (Qc true 6 h1 v4) fun v5 =>
 beff (Qs base 6 h1 v0 v5) fun v6 h7 =>
 bnd (Qc true 6 h7 v0) fun v8 =>
 rt false base v8 h7)
 (bnd (Zj [(.int .i64 0),(.int .u64 0),(.int .u64 0),(.int .u64 0),(.int .u64 0),.nils] [(0,1),(1,4),(5,1)] [(0,t1),(2,t0)]) fun v9 =>
 beff (Qs base 6 h1 v0 v9) fun v10 h11 =>
 bnd (Qc true 6 h11 v0) fun v12 =>
 rt false base v12 h11) := by kernel_rfl
theorem QoL (t0 t1 : V) (H : Qa) : E L2 [t0,t1] H = Tx H.length t0 t1 H := (QR Tryd.func38 (by kernel_rfl) (by kernel_rfl) (by kernel_rfl)).trans (by kernel_rfl)
def Qqk : Code := QO Tryd.f39
def Qmf : Ks := []
def Qlj (base : Nat) : KC (Out × Qa) := QP Tryd.prog D false base 17 Tryd.f39.results.toList
def Ql6 (base : Nat) (c : Code) (k : KC (Out × Qa)) (t : Ts) (H : Qa) (d : Ds) : Option (Out × Qa) := xC Tryd.prog base false Qmf E 17 c k t H d
def TH (base : Nat) (t0 t1 : V) (H : Qa) : Option (Out × Qa) := Ql6 base Qqk (Qlj base) [(0,t0),(1,t1)] H []
theorem Qq3 (base : Nat) (t0 t1 : V) (H : Qa) : TH base t0 t1 H =
 beff (QD H t0) fun v0 h1 =>
 beff (QD h1 (.agg [(.int .u64 0),(.int .u64 0),(.int .u64 0),(.int .u64 0)])) fun v2 h3 =>
 bnd (Qb .quo 6 t1 (.int .i64 64)) fun v4 =>
 bnd (Qb .quo 6 t1 (.int .i64 64)) fun v5 =>
 bnd (Wl 4 1 v0 v5) fun v6 =>
 bnd (Qc false 1 h3 v6) fun v7 =>
 bnd (Qb .rem 6 t1 (.int .i64 64)) fun v8 =>
 bnd (Qb .shl 6 (.int .u64 1) v8) fun v9 =>
 bnd (Qb .or 6 v7 v9) fun v10 =>
 bnd (Wl 4 1 v0 v4) fun v11 =>
 beff (Qs base 1 h3 v11 v10) fun v12 h13 =>
 bnd (Qc true 4 h13 v0) fun v14 =>
 beff (Qs base 4 h13 v2 v14) fun v15 h16 =>
 bnd (Qc true 4 h16 v2) fun v17 =>
 rt false base v17 h16 := by kernel_rfl
theorem QjF (t0 t1 : V) (H : Qa) : E Eg [t0,t1] H = TH H.length t0 t1 H := (QR Tryd.func39 (by kernel_rfl) (by kernel_rfl) (by kernel_rfl)).trans (by kernel_rfl)
def YT : Code := QO Tryd.f40
def W8 : Ks := [(3,[1,3,4]),(4,[1,3,4])]
def WE (base : Nat) : KC (Out × Qa) := QP Tryd.prog D false base 15 Tryd.f40.results.toList
def Vz (base : Nat) (c : Code) (k : KC (Out × Qa)) (t : Ts) (H : Qa) (d : Ds) : Option (Out × Qa) := xC Tryd.prog base false W8 E 15 c k t H d
def Np (base : Nat) (t1 t3 t4 : V) (H : Qa) : Option (Out × Qa) :=
Qt (fun t H d again => Vz base (cAt [1,1,0,1,0,0] YT) (Ql W8 (cAt [1,1,0,1,0,0] YT) again ((Qe 0 ((Qg (fun _ t => Vz base (cAt [1,1,1] YT) (WE base) (Qf W8 (cAt [1,1,1] YT) t)) (WE base)))))) t H d) [(1,t1),(3,t3),(4,t4)] H []
def Pk (base : Nat) (t1 t3 t4 : V) (H : Qa) : Option (Out × Qa) :=
Vz base (cAt [1,1,0,1,0,0,1,1] YT) ((Ql W8 (cAt [1,1,0,1,0,0] YT) (Qt (fun t H d again => Vz base (cAt [1,1,0,1,0,0] YT) (Ql W8 (cAt [1,1,0,1,0,0] YT) again ((Qe 0 ((Qg (fun _ t => Vz base (cAt [1,1,1] YT) (WE base) (Qf W8 (cAt [1,1,1] YT) t)) (WE base)))))) t H d)) ((Qe 0 ((Qg (fun _ t => Vz base (cAt [1,1,1] YT) (WE base) (Qf W8 (cAt [1,1,1] YT) t)) (WE base))))))) [(1,t1),(3,t3),(4,t4)] H []
theorem Qp2 (base : Nat) (t1 t3 t4 : V) (H : Qa) : Pk base t1 t3 t4 H =
 bnd (Qb .add 6 t4 (.int .i64 1)) fun v7 =>
 Np base t1 t3 v7 H := by kernel_rfl
theorem Qma (base : Nat) (t1 t3 t4 : V) (H : Qa) : Np base t1 t3 t4 H =
 bnd (Qb .lss 6 t4 (.int .i64 256)) fun v2 =>
 cnd v2
 (bnd (Qc true 4 H t1) fun v3 =>
 bcall (E Vy [v3,t4] H) (fun v4 h5 =>
 cnd v4
 (bnd (Qb .add 6 t3 (.int .i64 1)) fun v6 =>
 Pk base t1 v6 t4 h5)
 (Pk base t1 t3 t4 h5))
 (fun v4 h5 => pn false base v4 h5))
 (rt false base t3 H) := (Za (cAt [1,1,0,1,0,0] YT) ((Qe 0 ((Qg (fun _ t => Vz base (cAt [1,1,1] YT) (WE base) (Qf W8 (cAt [1,1,1] YT) t)) (WE base))))) _ H []).trans (by kernel_rfl)
def QgO (base : Nat) (t0 : V) (H : Qa) : Option (Out × Qa) := Vz base YT (WE base) [(0,t0)] H []
theorem QhY (base : Nat) (t0 : V) (H : Qa) : QgO base t0 H =
 beff (QD H t0) fun v0 h1 =>
 Np base v0 (.int .i64 0) (.int .i64 0) h1 := by kernel_rfl
theorem Qjq (t0 : V) (H : Qa) : E US [t0] H = QgO H.length t0 H := (QR Tryd.func40 (by kernel_rfl) (by kernel_rfl) (by kernel_rfl)).trans (by kernel_rfl)
def Qol : Code := QO Tryd.f41
def Qkk : Ks := []
def QqA (base : Nat) : KC (Out × Qa) := QP Tryd.prog D false base 8 Tryd.f41.results.toList
def QnC (base : Nat) (c : Code) (k : KC (Out × Qa)) (t : Ts) (H : Qa) (d : Ds) : Option (Out × Qa) := xC Tryd.prog base false Qkk E 8 c k t H d
def TB (base : Nat) (t0 t1 : V) (H : Qa) : Option (Out × Qa) := QnC base Qol (QqA base) [(0,t0),(1,t1)] H []
theorem Qok (base : Nat) (t0 t1 : V) (H : Qa) : TB base t0 t1 H =
 beff (QD H t0) fun v0 h1 =>
 beff (QD h1 t1) fun v2 h3 =>
 beff (QD h3 (.agg [(.int .u64 0),(.int .u64 0),(.int .u64 0),(.int .u64 0)])) fun v4 h5 =>
 bnd (Qc true 4 h5 v0) fun v6 =>
 bnd (Qc true 4 h5 v2) fun v7 =>
 bcall (E Cv [v6,v7,(.bool false),(.bool true),(.bool true),(.bool true)] h5) (fun v8 h9 =>
 beff (Qs base 4 h9 v4 v8) fun v10 h11 =>
 bnd (Qc true 4 h11 v4) fun v12 =>
 rt false base v12 h11)
 (fun v8 h9 => pn false base v8 h9) := by kernel_rfl
theorem QhZ (t0 t1 : V) (H : Qa) : E Ez [t0,t1] H = TB H.length t0 t1 H := (QR Tryd.func41 (by kernel_rfl) (by kernel_rfl) (by kernel_rfl)).trans (by kernel_rfl)
def Qny : Code := QO Tryd.f42
def Qmq : Ks := []
def Qjv (base : Nat) : KC (Out × Qa) := QP Tryd.prog D false base 9 Tryd.f42.results.toList
def Qpz (base : Nat) (c : Code) (k : KC (Out × Qa)) (t : Ts) (H : Qa) (d : Ds) : Option (Out × Qa) := xC Tryd.prog base false Qmq E 9 c k t H d
def QgL (base : Nat) (t0 : V) (H : Qa) : Option (Out × Qa) := Qpz base Qny (Qjv base) [(0,t0)] H []
theorem Qmi (base : Nat) (t0 : V) (H : Qa) : QgL base t0 H =
 beff (QD H t0) fun v0 h1 =>
 beff (QD h1 (.agg [(.int .i64 0),(.int .u64 0),(.int .u64 0),(.int .u64 0),(.int .u64 0),.nils])) fun v2 h3 =>
 bnd (Qc true 4 h3 v0) fun v4 =>
 bcall (E US [v4] h3) (fun v5 h6 =>
 bnd (Qb .eql 6 v5 (.int .i64 0)) fun v7 =>
 cnd v7
 (bnd (Zj [(.int .i64 0),(.int .u64 0),(.int .u64 0),(.int .u64 0),(.int .u64 0),.nils] [(0,1),(1,4),(5,1)] []) fun v8 =>
 beff (Qs base 6 h6 v2 v8) fun v9 h10 =>
 bnd (Qc true 6 h10 v2) fun v11 =>
 rt false base v11 h10)
 (bnd (Qc true 4 h6 v0) fun v12 =>
 bnd (Zj [(.int .i64 0),(.int .u64 0),(.int .u64 0),(.int .u64 0),(.int .u64 0),.nils] [(0,1),(1,4),(5,1)] [(0,(.int .i64 2)),(1,v12)]) fun v13 =>
 beff (Qs base 6 h6 v2 v13) fun v14 h15 =>
 bnd (Qc true 6 h15 v2) fun v16 =>
 rt false base v16 h15))
 (fun v5 h6 => pn false base v5 h6) := by kernel_rfl
theorem QnH (t0 : V) (H : Qa) : E Dw [t0] H = QgL H.length t0 H := (QR Tryd.func42 (by kernel_rfl) (by kernel_rfl) (by kernel_rfl)).trans (by kernel_rfl)
def Q0 : Code := QO Tryd.f43
def ZW : Ks := [(5,[0,3,5,6,7,8]),(10,[0,3,5,6,7,8,9]),(13,[0,3,5,6,7,8]),(6,[0,3,5,6,7,8]),(16,[5])]
def ZV (base : Nat) : KC (Out × Qa) := QP Tryd.prog D false base 51 Tryd.f43.results.toList
def Z4 (base : Nat) (c : Code) (k : KC (Out × Qa)) (t : Ts) (H : Qa) (d : Ds) : Option (Out × Qa) := xC Tryd.prog base false ZW E 51 c k t H d
def NV (base : Nat) (t0 t3 t5 t6 t7 t8 : V) (H : Qa) : Option (Out × Qa) :=
Qt (fun t H d again => Z4 base (cAt [1,1,1,1,0,1,0,0] Q0) (Ql ZW (cAt [1,1,1,1,0,1,0,0] Q0) again ((Qe 0 ((Qg (fun _ t => Z4 base (cAt [1,1,1,1,1] Q0) (ZV base) (Qf ZW (cAt [1,1,1,1,1] Q0) t)) (ZV base)))))) t H d) [(0,t0),(3,t3),(5,t5),(6,t6),(7,t7),(8,t8)] H []
def QbS (base : Nat) (t0 t3 t5 t6 t7 t8 : V) (H : Qa) : Option (Out × Qa) :=
Z4 base (cAt [1,1,1,1,0,1,0,0,1,1] Q0) ((Ql ZW (cAt [1,1,1,1,0,1,0,0] Q0) (Qt (fun t H d again => Z4 base (cAt [1,1,1,1,0,1,0,0] Q0) (Ql ZW (cAt [1,1,1,1,0,1,0,0] Q0) again ((Qe 0 ((Qg (fun _ t => Z4 base (cAt [1,1,1,1,1] Q0) (ZV base) (Qf ZW (cAt [1,1,1,1,1] Q0) t)) (ZV base)))))) t H d)) ((Qe 0 ((Qg (fun _ t => Z4 base (cAt [1,1,1,1,1] Q0) (ZV base) (Qf ZW (cAt [1,1,1,1,1] Q0) t)) (ZV base))))))) [(0,t0),(3,t3),(5,t5),(6,t6),(7,t7),(8,t8)] H []
theorem E9 (base : Nat) (t0 t3 t5 t6 t7 t8 : V) (H : Qa) : QbS base t0 t3 t5 t6 t7 t8 H =
 bnd (Qb .add 6 t8 (.int .i64 1)) fun v25 =>
 NV base t0 t3 t5 t6 t7 v25 H := by kernel_rfl
def RB (base : Nat) (t0 t3 t5 t6 t7 t8 : V) (H : Qa) : Option (Out × Qa) :=
Z4 base (cAt [1,1,1,1,0,1,0,0,1,0,0,1,1,1] Q0) ((Qe 1 ((Qg (fun _ t => Z4 base (cAt [1,1,1,1,0,1,0,0,1,1] Q0) ((Ql ZW (cAt [1,1,1,1,0,1,0,0] Q0) (Qt (fun t H d again => Z4 base (cAt [1,1,1,1,0,1,0,0] Q0) (Ql ZW (cAt [1,1,1,1,0,1,0,0] Q0) again ((Qe 0 ((Qg (fun _ t => Z4 base (cAt [1,1,1,1,1] Q0) (ZV base) (Qf ZW (cAt [1,1,1,1,1] Q0) t)) (ZV base)))))) t H d)) ((Qe 0 ((Qg (fun _ t => Z4 base (cAt [1,1,1,1,1] Q0) (ZV base) (Qf ZW (cAt [1,1,1,1,1] Q0) t)) (ZV base))))))) (Qf ZW (cAt [1,1,1,1,0,1,0,0,1,1] Q0) t)) ((Ql ZW (cAt [1,1,1,1,0,1,0,0] Q0) (Qt (fun t H d again => Z4 base (cAt [1,1,1,1,0,1,0,0] Q0) (Ql ZW (cAt [1,1,1,1,0,1,0,0] Q0) again ((Qe 0 ((Qg (fun _ t => Z4 base (cAt [1,1,1,1,1] Q0) (ZV base) (Qf ZW (cAt [1,1,1,1,1] Q0) t)) (ZV base)))))) t H d)) ((Qe 0 ((Qg (fun _ t => Z4 base (cAt [1,1,1,1,1] Q0) (ZV base) (Qf ZW (cAt [1,1,1,1,1] Q0) t)) (ZV base))))))))))) [(0,t0),(3,t3),(5,t5),(6,t6),(7,t7),(8,t8)] H []
theorem Ab (base : Nat) (t0 t3 t5 t6 t7 t8 : V) (H : Qa) : RB base t0 t3 t5 t6 t7 t8 H =
 bnd (Qx 6 t0 t8) fun v20 =>
 bnd (Qc true 6 H v20) fun v21 =>
 bnd (Zq 6 1 (.agg [(.int .i64 0),(.int .u64 0),(.int .u64 0),(.int .u64 0),(.int .u64 0),(.vs [])]) [(0,v21)]) fun v22 =>
 beff (Z1 base 6 64 true t5 v22 H) fun v23 h24 =>
 QbS base t0 t3 v23 t6 t7 t8 h24 := by kernel_rfl
def PN (base : Nat) (t0 t3 t5 t6 t7 t8 t9 : V) (H : Qa) : Option (Out × Qa) :=
Z4 base (cAt [1,1,1,1,0,1,0,0,1,0,0,1,1] Q0) ((Qe 1 ((Qg (fun _ t => Z4 base (cAt [1,1,1,1,0,1,0,0,1,1] Q0) ((Ql ZW (cAt [1,1,1,1,0,1,0,0] Q0) (Qt (fun t H d again => Z4 base (cAt [1,1,1,1,0,1,0,0] Q0) (Ql ZW (cAt [1,1,1,1,0,1,0,0] Q0) again ((Qe 0 ((Qg (fun _ t => Z4 base (cAt [1,1,1,1,1] Q0) (ZV base) (Qf ZW (cAt [1,1,1,1,1] Q0) t)) (ZV base)))))) t H d)) ((Qe 0 ((Qg (fun _ t => Z4 base (cAt [1,1,1,1,1] Q0) (ZV base) (Qf ZW (cAt [1,1,1,1,1] Q0) t)) (ZV base))))))) (Qf ZW (cAt [1,1,1,1,0,1,0,0,1,1] Q0) t)) ((Ql ZW (cAt [1,1,1,1,0,1,0,0] Q0) (Qt (fun t H d again => Z4 base (cAt [1,1,1,1,0,1,0,0] Q0) (Ql ZW (cAt [1,1,1,1,0,1,0,0] Q0) again ((Qe 0 ((Qg (fun _ t => Z4 base (cAt [1,1,1,1,1] Q0) (ZV base) (Qf ZW (cAt [1,1,1,1,1] Q0) t)) (ZV base)))))) t H d)) ((Qe 0 ((Qg (fun _ t => Z4 base (cAt [1,1,1,1,1] Q0) (ZV base) (Qf ZW (cAt [1,1,1,1,1] Q0) t)) (ZV base))))))))))) [(0,t0),(3,t3),(5,t5),(6,t6),(7,t7),(8,t8),(9,t9)] H []
theorem LC (base : Nat) (t0 t3 t5 t6 t7 t8 t9 : V) (H : Qa) : PN base t0 t3 t5 t6 t7 t8 t9 H =
 bnd (Qb .gtr 6 t9 t6) fun v12 =>
 bnd (gua v12 true (QL t7) (some (.tup []))) fun v13 =>
 bnd (gua v12 true (oUn .not v13) (some (.tup []))) fun v14 =>
 bnd (QY v12 v14 (.bool false)) fun v15 =>
 cnd v15
 (bnd (Qc true 6 H t3) fun v16 =>
 bnd (Zq 6 1 (.agg [(.int .i64 0),(.int .u64 0),(.int .u64 0),(.int .u64 0),(.int .u64 0),(.vs [])]) [(0,v16)]) fun v17 =>
 beff (Z1 base 6 64 true t5 v17 H) fun v18 h19 =>
 RB base t0 t3 v18 t6 (.bool true) t8 h19)
 (RB base t0 t3 t5 t6 t7 t8 H) := by kernel_rfl
def Ac (base : Nat) (t5 : V) (H : Qa) : Option (Out × Qa) :=
Z4 base (cAt [1,1,1,1,1,1] Q0) (ZV base) [(5,t5)] H []
theorem QaD (base : Nat) (t5 : V) (H : Qa) : Ac base t5 H =
 rt false base t5 H := by kernel_rfl
theorem Bj (base : Nat) (t0 t3 t5 t6 t7 t8 : V) (H : Qa) : NV base t0 t3 t5 t6 t7 t8 H =
 bnd (QM t0) fun v5 =>
 bnd (Qb .lss 6 t8 v5) fun v6 =>
 cnd v6
 (bnd (Qx 6 t0 t8) fun v7 =>
 bnd (Qc true 6 H v7) fun v8 =>
 bcall (E K1 [v8] H) (fun v9 h10 =>
 bnd (Qb .eql 6 v9 t6) fun v11 =>
 cnd v11
 (PN base t0 t3 t5 t6 (.bool true) t8 v9 h10)
 (PN base t0 t3 t5 t6 t7 t8 v9 h10))
 (fun v9 h10 => pn false base v9 h10))
 (bnd (oUn .not t7) fun v26 =>
 cnd v26
 (bnd (Qc true 6 H t3) fun v27 =>
 bnd (Zq 6 1 (.agg [(.int .i64 0),(.int .u64 0),(.int .u64 0),(.int .u64 0),(.int .u64 0),(.vs [])]) [(0,v27)]) fun v28 =>
 beff (Z1 base 6 64 true t5 v28 H) fun v29 h30 =>
 Ac base v29 h30)
 (Ac base t5 H)) := (Za (cAt [1,1,1,1,0,1,0,0] Q0) ((Qe 0 ((Qg (fun _ t => Z4 base (cAt [1,1,1,1,1] Q0) (ZV base) (Qf ZW (cAt [1,1,1,1,1] Q0) t)) (ZV base))))) _ H []).trans (by kernel_rfl)
def QaS (base : Nat) (t0 t1 : V) (H : Qa) : Option (Out × Qa) := Z4 base Q0 (ZV base) [(0,t0),(1,t1)] H []
theorem QiO (base : Nat) (t0 t1 : V) (H : Qa) : QaS base t0 t1 H =
 beff (QD H t1) fun v0 h1 =>
 bnd (Qc true 6 h1 v0) fun v2 =>
 bcall (E K1 [v2] h1) (fun v3 h4 =>
 NV base t0 v0 .nils v3 (.bool false) (.int .i64 0) h4)
 (fun v3 h4 => pn false base v3 h4) := by kernel_rfl
theorem QjB (t0 t1 : V) (H : Qa) : E E6 [t0,t1] H = QaS H.length t0 t1 H := (QR Tryd.func43 (by kernel_rfl) (by kernel_rfl) (by kernel_rfl)).trans (by kernel_rfl)
def WK : Code := QO Tryd.f44
def Fj : Ks := [(2,[0,1,7,8])]
def Mt (base : Nat) : KC (Out × Qa) := QP Tryd.prog D false base 19 Tryd.f44.results.toList
def Gs (base : Nat) (c : Code) (k : KC (Out × Qa)) (t : Ts) (H : Qa) (d : Ds) : Option (Out × Qa) := xC Tryd.prog base true Fj E 19 c k t H d
def LD (base : Nat) (t0 t1 t7 t8 : V) (H : Qa) : Option (Out × Qa) :=
Qt (fun t H d again => Gs base (cAt [1,0,1,0,0] WK) (Ql Fj (cAt [1,0,1,0,0] WK) again ((Qe 0 ((Qg (fun _ t => Gs base (cAt [1,1] WK) (Mt base) (Qf Fj (cAt [1,1] WK) t)) (Mt base)))))) t H d) [(0,t0),(1,t1),(7,t7),(8,t8)] H []
theorem D9 (base : Nat) (t0 t1 t7 t8 : V) (H : Qa) : LD base t0 t1 t7 t8 H =
 bnd (Qb .lss 6 t8 t7) fun v1 =>
 cnd v1
 (bnd (Qx 6 t0 t8) fun v2 =>
 bnd (Qc true 6 H v2) fun v3 =>
 bcall (J6 E t1 [v3] H) (fun v4 h5 =>
 cnd v4
 (rt false base t8 h5)
 (bnd (Qb .add 6 t8 (.int .i64 1)) fun v6 =>
 LD base t0 t1 t7 v6 h5))
 (fun v4 h5 => pn false base v4 h5))
 (rt false base (.int .i64 (-1)) H) := (Za (cAt [1,0,1,0,0] WK) ((Qe 0 ((Qg (fun _ t => Gs base (cAt [1,1] WK) (Mt base) (Qf Fj (cAt [1,1] WK) t)) (Mt base))))) _ H []).trans (by kernel_rfl)
def QsI (base : Nat) (t0 t1 : V) (H : Qa) : Option (Out × Qa) := Gs base WK (Mt base) [(0,t0),(1,t1)] H []
theorem Ql7 (base : Nat) (t0 t1 : V) (H : Qa) : QsI base t0 t1 H =
 bnd (QM t0) fun v0 =>
 LD base t0 t1 v0 (.int .i64 0) H := by kernel_rfl
theorem QnR (t0 t1 : V) (H : Qa) : E Ef [t0,t1] H = QsI H.length t0 t1 H := (QR Tryd.func44 (by kernel_rfl) (by kernel_rfl) (by kernel_rfl)).trans (by kernel_rfl)
def YJ : Code := QO Tryd.f47
def VY : Ks := [(4,[0,2,3,10,11,12]),(8,[0,2,3,10,11,12]),(12,[0,2])]
def KF (base : Nat) : KC (Out × Qa) := QP Tryd.prog D false base 40 Tryd.f47.results.toList
def Wm (base : Nat) (c : Code) (k : KC (Out × Qa)) (t : Ts) (H : Qa) (d : Ds) : Option (Out × Qa) := xC Tryd.prog base false VY E 40 c k t H d
def Ux (base : Nat) (t0 t2 t3 t10 t11 t12 : V) (H : Qa) : Option (Out × Qa) :=
Qt (fun t H d again => Wm base (cAt [1,1,1,0,1,0,0] YJ) (Ql VY (cAt [1,1,1,0,1,0,0] YJ) again ((Qe 0 ((Qg (fun _ t => Wm base (cAt [1,1,1,1] YJ) (KF base) (Qf VY (cAt [1,1,1,1] YJ) t)) (KF base)))))) t H d) [(0,t0),(2,t2),(3,t3),(10,t10),(11,t11),(12,t12)] H []
def PI (base : Nat) (t0 t2 t3 t10 t11 t12 : V) (H : Qa) : Option (Out × Qa) :=
Wm base (cAt [1,1,1,0,1,0,0,1,1,1] YJ) ((Ql VY (cAt [1,1,1,0,1,0,0] YJ) (Qt (fun t H d again => Wm base (cAt [1,1,1,0,1,0,0] YJ) (Ql VY (cAt [1,1,1,0,1,0,0] YJ) again ((Qe 0 ((Qg (fun _ t => Wm base (cAt [1,1,1,1] YJ) (KF base) (Qf VY (cAt [1,1,1,1] YJ) t)) (KF base)))))) t H d)) ((Qe 0 ((Qg (fun _ t => Wm base (cAt [1,1,1,1] YJ) (KF base) (Qf VY (cAt [1,1,1,1] YJ) t)) (KF base))))))) [(0,t0),(2,t2),(3,t3),(10,t10),(11,t11),(12,t12)] H []
theorem QoU (base : Nat) (t0 t2 t3 t10 t11 t12 : V) (H : Qa) : PI base t0 t2 t3 t10 t11 t12 H =
 bnd (Qb .add 6 t12 (.int .i64 1)) fun v28 =>
 Ux base t0 t2 t3 t10 t11 v28 H := by kernel_rfl
def MS (base : Nat) (t0 t2 : V) (H : Qa) : Option (Out × Qa) :=
Wm base (cAt [1,1,1,1,1,1] YJ) (KF base) [(0,t0),(2,t2)] H []
theorem QaK (base : Nat) (t0 t2 : V) (H : Qa) : MS base t0 t2 H =
 bcall (E PP [t0,(.fn Uw [])] H) (fun v42 h43 =>
 bcall (E Fe [t0,(.fn Bv [])] h43) (fun v44 h45 =>
 bcall (E Fp [v44,(.int .i64 4),(.int .i64 0)] h45) (fun v46 h47 =>
 beff (Qs base 6 h47 t2 v46) fun v48 h49 =>
 bnd (Qc true 6 h49 t2) fun v50 =>
 rt false base v50 h49)
 (fun v46 h47 => pn false base v46 h47))
 (fun v44 h45 => pn false base v44 h45))
 (fun v42 h43 => pn false base v42 h43) := by kernel_rfl
theorem F1 (base : Nat) (t0 t2 t3 t10 t11 t12 : V) (H : Qa) : Ux base t0 t2 t3 t10 t11 t12 H =
 bnd (Qb .lss 6 t12 t11) fun v11 =>
 cnd v11
 (bnd (Qx 6 t10 t12) fun v12 =>
 bnd (Qc true 6 H v12) fun v13 =>
 beff (QD H (.agg [(.int .i64 0),(.int .u64 0),(.int .u64 0),(.int .u64 0),(.int .u64 0),.nils])) fun v14 h15 =>
 beff (Qs base 6 h15 v14 v13) fun v16 h17 =>
 bnd (Qq v14 0) fun v18 =>
 bnd (Qc false 1 h17 v18) fun v19 =>
 bnd (Qb .eql 6 v19 (.int .i64 2)) fun v20 =>
 cnd v20
 (bnd (Qc true 4 h17 t3) fun v21 =>
 bnd (Qq v14 1) fun v22 =>
 bnd (Qc true 4 h17 v22) fun v23 =>
 bcall (E D5 [v21,v23] h17) (fun v24 h25 =>
 beff (Qs base 4 h25 t3 v24) fun v26 h27 =>
 PI base t0 t2 t3 t10 t11 t12 h27)
 (fun v24 h25 => pn false base v24 h25))
 (PI base t0 t2 t3 t10 t11 t12 h17))
 (bcall (E BI [(.int .i64 2)] H) (fun v29 h30 =>
 bcall (E UU [t0,v29] h30) (fun v31 h32 =>
 bnd (Qc true 4 h32 t3) fun v33 =>
 bnd (NT [(.int .u64 0),(.int .u64 0),(.int .u64 0),(.int .u64 0)] 1 []) fun v34 =>
 bnd (Qb .neq 46 v33 v34) fun v35 =>
 cnd v35
 (bnd (Qc true 4 h32 t3) fun v36 =>
 bcall (E AO [v36] h32) (fun v37 h38 =>
 bnd (Zq 6 1 (.agg [(.int .i64 0),(.int .u64 0),(.int .u64 0),(.int .u64 0),(.int .u64 0),(.vs [])]) [(0,v37)]) fun v39 =>
 bcall (E Bt [v31,(.int .i64 0),v39] h38) (fun v40 h41 =>
 MS base v40 t2 h41)
 (fun v40 h41 => pn false base v40 h41))
 (fun v37 h38 => pn false base v37 h38))
 (MS base v31 t2 h32))
 (fun v31 h32 => pn false base v31 h32))
 (fun v29 h30 => pn false base v29 h30)) := (Za (cAt [1,1,1,0,1,0,0] YJ) ((Qe 0 ((Qg (fun _ t => Wm base (cAt [1,1,1,1] YJ) (KF base) (Qf VY (cAt [1,1,1,1] YJ) t)) (KF base))))) _ H []).trans (by kernel_rfl)
def QcP (base : Nat) (t0 : V) (H : Qa) : Option (Out × Qa) := Wm base YJ (KF base) [(0,t0)] H []
theorem Qq4 (base : Nat) (t0 : V) (H : Qa) : QcP base t0 H =
 beff (QD H (.agg [(.int .i64 0),(.int .u64 0),(.int .u64 0),(.int .u64 0),(.int .u64 0),.nils])) fun v0 h1 =>
 bcall (E LR [t0,(.int .i64 4)] h1) (fun v2 h3 =>
 bcall (E BI [(.int .i64 0)] h3) (fun v4 h5 =>
 bcall (E UU [v2,v4] h5) (fun v6 h7 =>
 beff (QD h7 (.agg [(.int .u64 0),(.int .u64 0),(.int .u64 0),(.int .u64 0)])) fun v8 h9 =>
 bnd (QM v6) fun v10 =>
 Ux base v6 v0 v8 v6 v10 (.int .i64 0) h9)
 (fun v6 h7 => pn false base v6 h7))
 (fun v4 h5 => pn false base v4 h5))
 (fun v2 h3 => pn false base v2 h3) := by kernel_rfl
theorem QhX (t0 : V) (H : Qa) : E Fl [t0] H = QcP H.length t0 H := (QR Tryd.func47 (by kernel_rfl) (by kernel_rfl) (by kernel_rfl)).trans (by kernel_rfl)
def Y7 : Code := QO Tryd.f48
def Vf : Ks := [(2,[1,4,7,8,9]),(7,[1,4,7,8,9])]
def Wu (base : Nat) : KC (Out × Qa) := QP Tryd.prog D true base 27 Tryd.f48.results.toList
def Vr (base : Nat) (c : Code) (k : KC (Out × Qa)) (t : Ts) (H : Qa) (d : Ds) : Option (Out × Qa) := xC Tryd.prog base false Vf E 27 c k t H d
def Eb (base : Nat) (t1 t4 t7 t8 t9 : V) (H : Qa) : Option (Out × Qa) :=
Qt (fun t H d again => Vr base (cAt [1,0,1,0,0] Y7) (Ql Vf (cAt [1,0,1,0,0] Y7) again ((Qe 0 ((Qg (fun _ t => Vr base (cAt [1,1] Y7) (Wu base) (Qf Vf (cAt [1,1] Y7) t)) (Wu base)))))) t H d) [(1,t1),(4,t4),(7,t7),(8,t8),(9,t9)] H []
def R4 (base : Nat) (t1 t4 t7 t8 t9 : V) (H : Qa) : Option (Out × Qa) :=
Vr base (cAt [1,0,1,0,0,1,1,1] Y7) ((Ql Vf (cAt [1,0,1,0,0] Y7) (Qt (fun t H d again => Vr base (cAt [1,0,1,0,0] Y7) (Ql Vf (cAt [1,0,1,0,0] Y7) again ((Qe 0 ((Qg (fun _ t => Vr base (cAt [1,1] Y7) (Wu base) (Qf Vf (cAt [1,1] Y7) t)) (Wu base)))))) t H d)) ((Qe 0 ((Qg (fun _ t => Vr base (cAt [1,1] Y7) (Wu base) (Qf Vf (cAt [1,1] Y7) t)) (Wu base))))))) [(1,t1),(4,t4),(7,t7),(8,t8),(9,t9)] H []
theorem Qhw (base : Nat) (t1 t4 t7 t8 t9 : V) (H : Qa) : R4 base t1 t4 t7 t8 t9 H =
 bnd (Qb .add 6 t9 (.int .i64 1)) fun v15 =>
 Eb base t1 t4 t7 t8 v15 H := by kernel_rfl
theorem Qmk (base : Nat) (t1 t4 t7 t8 t9 : V) (H : Qa) : Eb base t1 t4 t7 t8 t9 H =
 bnd (Qb .lss 6 t9 t8) fun v1 =>
 cnd v1
 (bnd (Qx 6 t7 t9) fun v2 =>
 bnd (Qc true 6 H v2) fun v3 =>
 beff (QD H (.agg [(.int .i64 0),(.int .u64 0),(.int .u64 0),(.int .u64 0),(.int .u64 0),.nils])) fun v4 h5 =>
 beff (Qs base 6 h5 v4 v3) fun v6 h7 =>
 bnd (Qq v4 0) fun v8 =>
 bnd (Qc false 1 h7 v8) fun v9 =>
 bnd (Qb .eql 6 v9 t1) fun v10 =>
 cnd v10
 (bnd (Qq v4 5) fun v11 =>
 bnd (Qc false 1 h7 v11) fun v12 =>
 beff (Z1 base 6 64 true t4 v12 h7) fun v13 h14 =>
 R4 base t1 v13 t7 t8 t9 h14)
 (bnd (Qc true 6 h7 v4) fun v16 =>
 bnd (Zq 6 1 (.agg [(.int .i64 0),(.int .u64 0),(.int .u64 0),(.int .u64 0),(.int .u64 0),(.vs [])]) [(0,v16)]) fun v17 =>
 beff (Z1 base 6 64 true t4 v17 h7) fun v18 h19 =>
 R4 base t1 v18 t7 t8 t9 h19))
 (rt true base t4 H) := (Za (cAt [1,0,1,0,0] Y7) ((Qe 0 ((Qg (fun _ t => Vr base (cAt [1,1] Y7) (Wu base) (Qf Vf (cAt [1,1] Y7) t)) (Wu base))))) _ H []).trans (by kernel_rfl)
def Qf4 (base : Nat) (t0 t1 : V) (H : Qa) : Option (Out × Qa) := Vr base Y7 (Wu base) [(0,t0),(1,t1)] H []
theorem QoR (base : Nat) (t0 t1 : V) (H : Qa) : Qf4 base t0 t1 H =
 bnd (QM t0) fun v0 =>
 Eb base t1 .nils t0 v0 (.int .i64 0) H := by kernel_rfl
theorem Qml (t0 t1 : V) (H : Qa) : E LR [t0,t1] H = Qf4 H.length t0 t1 H := (QR Tryd.func48 (by kernel_rfl) (by kernel_rfl) (by kernel_rfl)).trans (by kernel_rfl)
def Qlx : Code := QO Tryd.f49
def QmM : Ks := []
def Qj4 (base : Nat) : KC (Out × Qa) := QP Tryd.prog D false base 4 Tryd.f49.results.toList
def Qnh (base : Nat) (c : Code) (k : KC (Out × Qa)) (t : Ts) (H : Qa) (d : Ds) : Option (Out × Qa) := xC Tryd.prog base false QmM E 4 c k t H d
def TC (base : Nat) (t0 : V) (H : Qa) : Option (Out × Qa) := Qnh base Qlx (Qj4 base) [(0,t0)] H []
theorem Qqm (base : Nat) (t0 : V) (H : Qa) : TC base t0 H =
 beff (QD H t0) fun v0 h1 =>
 bnd (Gz Jk [v0]) fun v2 =>
 rt false base v2 h1 := by kernel_rfl
theorem QqR (t0 : V) (H : Qa) : E BI [t0] H = TC H.length t0 H := (QR Tryd.func49 (by kernel_rfl) (by kernel_rfl) (by kernel_rfl)).trans (by kernel_rfl)
def Qon : Code := QO Tryd.f50
def Qmp : Ks := []
def Qip (base : Nat) : KC (Out × Qa) := QP Tryd.prog D false base 21 Tryd.f50.results.toList
def QlK (base : Nat) (c : Code) (k : KC (Out × Qa)) (t : Ts) (H : Qa) (d : Ds) : Option (Out × Qa) := xC Tryd.prog base false Qmp E 21 c k t H d
def QaQ (base : Nat) (t0 t1 t2 : V) (H : Qa) : Option (Out × Qa) := QlK base Qon (Qip base) [(0,t0),(1,t1),(2,t2)] H []
theorem Qlw (base : Nat) (t0 t1 t2 : V) (H : Qa) : QaQ base t0 t1 t2 H =
 beff (QD H (.agg [(.int .i64 0),(.int .u64 0),(.int .u64 0),(.int .u64 0),(.int .u64 0),.nils])) fun v0 h1 =>
 bnd (QM t0) fun v2 =>
 bnd (Qb .eql 6 v2 (.int .i64 0)) fun v3 =>
 cnd v3
 (bnd (Zj [(.int .i64 0),(.int .u64 0),(.int .u64 0),(.int .u64 0),(.int .u64 0),.nils] [(0,1),(1,4),(5,1)] [(0,t2)]) fun v4 =>
 beff (Qs base 6 h1 v0 v4) fun v5 h6 =>
 bnd (Qc true 6 h6 v0) fun v7 =>
 rt false base v7 h6)
 (bnd (Qb .eql 6 v2 (.int .i64 1)) fun v8 =>
 cnd v8
 (bnd (Qx 6 t0 (.int .i64 0)) fun v9 =>
 bnd (Qc true 6 h1 v9) fun v10 =>
 beff (Qs base 6 h1 v0 v10) fun v11 h12 =>
 bnd (Qc true 6 h12 v0) fun v13 =>
 rt false base v13 h12)
 (bnd (Zj [(.int .i64 0),(.int .u64 0),(.int .u64 0),(.int .u64 0),(.int .u64 0),.nils] [(0,1),(1,4),(5,1)] [(0,t1),(2,t0)]) fun v14 =>
 beff (Qs base 6 h1 v0 v14) fun v15 h16 =>
 bnd (Qc true 6 h16 v0) fun v17 =>
 rt false base v17 h16)) := by kernel_rfl
theorem QhP (t0 t1 t2 : V) (H : Qa) : E Fp [t0,t1,t2] H = QaQ H.length t0 t1 t2 H := (QR Tryd.func50 (by kernel_rfl) (by kernel_rfl) (by kernel_rfl)).trans (by kernel_rfl)
end
end Go.Proofs.YtdnmpaielmfiiaaDoor
end
