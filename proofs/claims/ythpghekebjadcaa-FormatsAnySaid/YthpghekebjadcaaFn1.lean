/- Fn1: a part of the proof that each law of this seat answers true at every input. No condition. -/
import Derived.Test.YthpghekebjadcaaHint
import Derived.KernelRfl
set_option linter.unusedVariables false
set_option linter.unusedSimpArgs false
set_option maxRecDepth 20000
section
namespace Go.Proofs.Ythpghekebjadcaa
open Go Go.Ev
noncomputable section
def GI : Code := ZK Try.f3
def PG : Ks := []
def PD (O : Nat) : KC (Out × Qa) := ZN Try.prog D false O 41 Try.f3.results.toList
def Fb (O : Nat) (c : Code) (k : KC (Out × Qa)) (t : Ts) (H : Qa) (d : Ds) : Option (Out × Qa) := xC Try.prog O false PG E 41 c k t H d
def Lc (O : Nat) (t0 t1 : V) (H : Qa) : Option (Out × Qa) := Fb O GI (PD O) [(0,t0),(1,t1)] H []
theorem G9 (O : Nat) (t0 t1 : V) (H : Qa) : Lc O t0 t1 H =
 bcall (E Uy [] H) (fun v0 h1 =>
 bnd (VW .i64 t1) fun v2 =>
 bnd (Qr .rem 6 v2 (.int .i64 4)) fun v3 =>
 bnd (Z4 1 v0 v3) fun v4 =>
 bnd (QN false 1 h1 v4) fun v5 =>
 bcall (E RV [] h1) (fun v6 h7 =>
 bnd (gua v6 true (Zf t0) (some (.tup []))) fun v8 =>
 bcall (gua v6 true (E Kg [v8] h7) (some (.ret (.tup []),h7))) (fun v9 h10 =>
 bnd (gua v6 true (Zf t0) (some (.tup []))) fun v11 =>
 bcall (gua v6 true (E K7 [v11] h10) (some (.ret (.tup []),h10))) (fun v12 h13 =>
 bnd (gua v6 true (Qr .eql 6 v9 v12) (some (.tup []))) fun v14 =>
 bnd (ZF v6 v14 (.bool false)) fun v15 =>
 bnd (gua v15 true (Zf t0) (some (.tup []))) fun v16 =>
 bcall (gua v15 true (E WM [v16] h13) (some (.ret (.tup []),h13))) (fun v17 h18 =>
 bnd (gua v15 true (Zf t0) (some (.tup []))) fun v19 =>
 bcall (gua v15 true (E VO [v19] h18) (some (.ret (.tup []),h18))) (fun v20 h21 =>
 bcall (gua v15 true (E WH [v17,v20] h21) (some (.ret (.tup []),h21))) (fun v22 h23 =>
 bnd (ZF v15 v22 (.bool false)) fun v24 =>
 bnd (gua v24 true (Zf v5) (some (.tup []))) fun v25 =>
 bcall (gua v24 true (E Kg [v25] h23) (some (.ret (.tup []),h23))) (fun v26 h27 =>
 bnd (gua v24 true (Zf v5) (some (.tup []))) fun v28 =>
 bcall (gua v24 true (E K7 [v28] h27) (some (.ret (.tup []),h27))) (fun v29 h30 =>
 bnd (gua v24 true (Qr .eql 6 v26 v29) (some (.tup []))) fun v31 =>
 bnd (ZF v24 v31 (.bool false)) fun v32 =>
 bnd (gua v32 true (Zf v5) (some (.tup []))) fun v33 =>
 bcall (gua v32 true (E WM [v33] h30) (some (.ret (.tup []),h30))) (fun v34 h35 =>
 bnd (gua v32 true (Zf v5) (some (.tup []))) fun v36 =>
 bcall (gua v32 true (E VO [v36] h35) (some (.ret (.tup []),h35))) (fun v37 h38 =>
 bcall (gua v32 true (E WH [v34,v37] h38) (some (.ret (.tup []),h38))) (fun v39 h40 =>
 bnd (ZF v32 v39 (.bool false)) fun v41 =>
 rt false O v41 h40)
 (fun v39 h40 => pn false O v39 h40))
 (fun v37 h38 => pn false O v37 h38))
 (fun v34 h35 => pn false O v34 h35))
 (fun v29 h30 => pn false O v29 h30))
 (fun v26 h27 => pn false O v26 h27))
 (fun v22 h23 => pn false O v22 h23))
 (fun v20 h21 => pn false O v20 h21))
 (fun v17 h18 => pn false O v17 h18))
 (fun v12 h13 => pn false O v12 h13))
 (fun v9 h10 => pn false O v9 h10))
 (fun v6 h7 => pn false O v6 h7))
 (fun v0 h1 => pn false O v0 h1) := by kernel_rfl
theorem Fl (t0 t1 : V) (H : Qa) : E Rk [t0,t1] H = Lc H.length t0 t1 H := (Yu Try.func3 (by kernel_rfl) (by kernel_rfl) (by kernel_rfl)).trans (by kernel_rfl)
def G2 : Code := ZK Try.f5
def Gj : Ks := []
def E6 (O : Nat) : KC (Out × Qa) := ZN Try.prog D false O 2 Try.f5.results.toList
def P1 (O : Nat) (c : Code) (k : KC (Out × Qa)) (t : Ts) (H : Qa) (d : Ds) : Option (Out × Qa) := xC Try.prog O false Gj E 2 c k t H d
def N8 (O : Nat) (H : Qa) : Option (Out × Qa) := P1 O G2 (E6 O) [] H []
theorem EJ (O : Nat) (H : Qa) : N8 O  H =
 bnd (QQ 1 4 (.str []) [(0,(.str [99,115,118])),(1,(.str [105,110,105])),(2,(.str [106,115,111,110])),(3,(.str [115,117,109,115]))]) fun v0 =>
 rt false O v0 H := by kernel_rfl
theorem FS (H : Qa) : E Uy [] H = N8 H.length  H := (Yu Try.func5 (by kernel_rfl) (by kernel_rfl) (by kernel_rfl)).trans (by kernel_rfl)
def Y7 : Code := ZK Try.f6
def VG : Ks := [(5,[1,2])]
def Vo (O : Nat) : KC (Out × Qa) := ZN Try.prog D false O 39 Try.f6.results.toList
def Up (O : Nat) (c : Code) (k : KC (Out × Qa)) (t : Ts) (H : Qa) (d : Ds) : Option (Out × Qa) := xC Try.prog O false VG E 39 c k t H d
def V4 (O : Nat) (t1 t2 : V) (H : Qa) : Option (Out × Qa) :=
JY (fun t H d again => Up O (cAt [1,1,1,0,1,0,0] Y7) (Zc VG (cAt [1,1,1,0,1,0,0] Y7) again ((Yi 0 ((Y9 (fun _ t => Up O (cAt [1,1,1,1] Y7) (Vo O) (ZU VG (cAt [1,1,1,1] Y7) t)) (Vo O)))))) t H d) [(1,t1),(2,t2)] H []
theorem LS (O : Nat) (t1 t2 : V) (H : Qa) : V4 O t1 t2 H =
 bnd (Qr .lss 6 t2 (.int .i64 4)) fun v4 =>
 cnd v4
 (bnd (Z4 1 t1 t2) fun v5 =>
 bnd (QN false 1 H v5) fun v6 =>
 bcall (E Uy [] H) (fun v7 h8 =>
 sch (sam (QN false 1 h8 v5) v6) (
 bnd (Z4 1 v7 t2) fun v9 =>
 bnd (QN false 1 h8 v9) fun v10 =>
 bnd (Qr .neq 6 v6 v10) fun v11 =>
 bnd (gua v11 false (Zf t1) (some (.tup []))) fun v12 =>
 bnd (gua v11 false (Zf t2) (some (.tup []))) fun v13 =>
 bnd (gua v11 false (Z4 1 v12 v13) (some (.tup []))) fun v14 =>
 bnd (gua v11 false (QN false 1 h8 v14) (some (.tup []))) fun v15 =>
 bcall (gua v11 false (E Kg [v15] h8) (some (.ret (.tup []),h8))) (fun v16 h17 =>
 bnd (gua v11 false (Qr .eql 6 v16 (.str [])) (some (.tup []))) fun v18 =>
 bnd (ZF v11 (.bool true) v18) fun v19 =>
 bnd (gua v19 false (Zf t1) (some (.tup []))) fun v20 =>
 bnd (gua v19 false (Zf t2) (some (.tup []))) fun v21 =>
 bnd (gua v19 false (Z4 1 v20 v21) (some (.tup []))) fun v22 =>
 bnd (gua v19 false (QN false 1 h17 v22) (some (.tup []))) fun v23 =>
 bcall (gua v19 false (E WM [v23] h17) (some (.ret (.tup []),h17))) (fun v24 h25 =>
 bnd (gua v19 false (Ka 0 false 1 v24) (some (.tup []))) fun v26 =>
 bnd (gua v19 false (Qr .eql 6 v26 (.str [])) (some (.tup []))) fun v27 =>
 bnd (ZF v19 (.bool true) v27) fun v28 =>
 cnd v28
 (rt false O (.bool false) h25)
 (bnd (Qr .add 6 t2 (.int .i64 1)) fun v29 =>
 V4 O t1 v29 h25))
 (fun v24 h25 => pn false O v24 h25))
 (fun v16 h17 => pn false O v16 h17)))
 (fun v7 h8 => sch (tlb (Zf t2) fun v30 => true) (pn false O v7 h8)))
 (bcall (E Kg [(.str [120])] H) (fun v31 h32 =>
 bnd (Qr .eql 6 v31 (.str [])) fun v33 =>
 rt false O v33 h32)
 (fun v31 h32 => pn false O v31 h32)) := (NU (cAt [1,1,1,0,1,0,0] Y7) ((Yi 0 ((Y9 (fun _ t => Up O (cAt [1,1,1,1] Y7) (Vo O) (ZU VG (cAt [1,1,1,1] Y7) t)) (Vo O))))) _ H []).trans (by kernel_rfl)
def LR (O : Nat) (H : Qa) : Option (Out × Qa) := Up O Y7 (Vo O) [] H []
theorem P2 (O : Nat) (H : Qa) : LR O  H =
 bcall (E M9 [] H) (fun v0 h1 =>
 bnd (Yb v0) fun v2 =>
 bnd (Qr .neq 6 v2 (.int .i64 4)) fun v3 =>
 cnd v3
 (rt false O (.bool false) h1)
 (V4 O v0 (.int .i64 0) h1))
 (fun v0 h1 => pn false O v0 h1) := by kernel_rfl
theorem E1 (H : Qa) : E RV [] H = LR H.length  H := (Yu Try.func6 (by kernel_rfl) (by kernel_rfl) (by kernel_rfl)).trans (by kernel_rfl)
def Fg : Code := ZK Try.f7
def Pf : Ks := []
def ES (O : Nat) : KC (Out × Qa) := ZN Try.prog D false O 7 Try.f7.results.toList
def PT (O : Nat) (c : Code) (k : KC (Out × Qa)) (t : Ts) (H : Qa) (d : Ds) : Option (Out × Qa) := xC Try.prog O false Pf E 7 c k t H d
def Ms (O : Nat) (t0 : V) (H : Qa) : Option (Out × Qa) := PT O Fg (ES O) [(0,t0)] H []
theorem PU (O : Nat) (t0 : V) (H : Qa) : Ms O t0 H =
 bcall (E V9 [] H) (fun v0 h1 =>
 bnd (Kl 1 (.agg [(.str []),(.str []),.nils,.nils,(.bool false)]) h1 v0 t0) fun v2 =>
 bnd (Ka 0 false 1 v2) fun v3 =>
 rt false O v3 h1)
 (fun v0 h1 => pn false O v0 h1) := by kernel_rfl
theorem FY (t0 : V) (H : Qa) : E Kg [t0] H = Ms H.length t0 H := (Yu Try.func7 (by kernel_rfl) (by kernel_rfl) (by kernel_rfl)).trans (by kernel_rfl)
def Gf : Code := ZK Try.f8
def Eh : Ks := []
def G8 (O : Nat) : KC (Out × Qa) := ZN Try.prog D false O 12 Try.f8.results.toList
def Ed (O : Nat) (c : Code) (k : KC (Out × Qa)) (t : Ts) (H : Qa) (d : Ds) : Option (Out × Qa) := xC Try.prog O false Eh E 12 c k t H d
def MP (O : Nat) (t0 : V) (H : Qa) : Option (Out × Qa) := Ed O Gf (G8 O) [(0,t0)] H []
theorem EN (O : Nat) (t0 : V) (H : Qa) : MP O t0 H =
 bnd (Qr .eql 6 t0 (.str [106,115,111,110])) fun v0 =>
 cnd v0
 (rt false O (.str [118,97,108,117,101,32,61,32,111,98,106,101,99,116,32,47,32,97,114,114,97,121,32,47,32,115,116,114,105,110,103,32,47,32,110,117,109,98,101,114,32,47,32,37,115,34,116,114,117,101,34,32,47,32,37,115,34,102,97,108,115,101,34,32,47,32,37,115,34,110,117,108,108,34,10,111,98,106,101,99,116,32,61,32,34,123,34,32,91,109,101,109,98,101,114,32,42,40,34,44,34,32,109,101,109,98,101,114,41,93,32,34,125,34,10,109,101,109,98,101,114,32,61,32,115,116,114,105,110,103,32,34,58,34,32,118,97,108,117,101,10,97,114,114,97,121,32,61,32,34,91,34,32,91,118,97,108,117,101,32,42,40,34,44,34,32,118,97,108,117,101,41,93,32,34,93,34,10,115,116,114,105,110,103,32,61,32,37,120,50,50,32,42,40,37,120,50,48,45,50,49,32,47,32,37,120,50,51,45,53,66,32,47,32,37,120,53,68,45,49,48,70,70,70,70,32,47,32,37,120,53,67,32,101,115,99,97,112,101,41,32,37,120,50,50,10,101,115,99,97,112,101,32,61,32,37,120,50,50,32,47,32,37,120,53,67,32,47,32,34,47,34,32,47,32,37,115,34,98,34,32,47,32,37,115,34,102,34,32,47,32,37,115,34,110,34,32,47,32,37,115,34,114,34,32,47,32,37,115,34,116,34,32,47,32,37,115,34,117,34,32,52,104,101,120,100,105,103,10,110,117,109,98,101,114,32,61,32,91,34,45,34,93,32,40,34,48,34,32,47,32,37,120,51,49,45,51,57,32,42,100,105,103,105,116,41,32,91,34,46,34,32,49,42,100,105,103,105,116,93,32,91,34,101,34,32,91,34,43,34,32,47,32,34,45,34,93,32,49,42,100,105,103,105,116,93,10,119,115,32,61,32,49,42,40,37,120,50,48,32,47,32,37,120,48,57,32,47,32,37,120,48,65,32,47,32,37,120,48,68,41,10]) H)
 (bnd (Qr .eql 6 t0 (.str [99,115,118])) fun v1 =>
 cnd v1
 (rt false O (.str [102,105,108,101,32,61,32,114,101,99,111,114,100,32,42,40,101,110,100,32,114,101,99,111,114,100,41,10,114,101,99,111,114,100,32,61,32,91,102,105,101,108,100,93,32,42,40,34,44,34,32,91,102,105,101,108,100,93,41,10,102,105,101,108,100,32,61,32,113,117,111,116,101,100,32,47,32,98,97,114,101,10,113,117,111,116,101,100,32,61,32,100,113,117,111,116,101,32,42,40,37,120,48,48,45,50,49,32,47,32,37,120,50,51,45,70,70,32,47,32,50,100,113,117,111,116,101,41,32,100,113,117,111,116,101,10,98,97,114,101,32,61,32,49,42,40,37,120,50,48,45,50,49,32,47,32,37,120,50,51,45,50,66,32,47,32,37,120,50,68,45,70,70,41,10,101,110,100,32,61,32,91,99,114,93,32,108,102,10]) H)
 (bnd (Qr .eql 6 t0 (.str [105,110,105])) fun v2 =>
 cnd v2
 (rt false O (.str [102,105,108,101,32,61,32,42,40,115,101,99,116,105,111,110,32,47,32,101,110,116,114,121,32,47,32,110,101,119,108,105,110,101,41,10,115,101,99,116,105,111,110,32,61,32,34,91,34,32,107,101,121,32,34,93,34,32,110,101,119,108,105,110,101,10,101,110,116,114,121,32,61,32,107,101,121,32,34,61,34,32,91,118,97,108,117,101,93,32,110,101,119,108,105,110,101,10,107,101,121,32,61,32,97,108,112,104,97,32,42,40,97,108,112,104,97,32,47,32,100,105,103,105,116,32,47,32,34,45,34,32,47,32,34,46,34,41,10,118,97,108,117,101,32,61,32,37,120,50,50,32,42,40,37,120,50,48,45,50,49,32,47,32,37,120,50,51,45,70,70,41,32,37,120,50,50,10,110,101,119,108,105,110,101,32,61,32,91,99,114,93,32,108,102,10,98,108,97,110,107,32,61,32,49,42,40,115,112,32,47,32,104,116,97,98,41,32,47,32,34,59,34,32,42,40,37,120,50,48,45,70,70,41,10]) H)
 (bnd (Qr .eql 6 t0 (.str [115,117,109,115])) fun v3 =>
 cnd v3
 (rt false O (.str [115,117,109,32,61,32,116,101,114,109,32,42,40,40,34,43,34,32,47,32,34,45,34,41,32,116,101,114,109,41,10,116,101,114,109,32,61,32,102,97,99,116,111,114,32,42,40,40,34,42,34,32,47,32,34,47,34,41,32,102,97,99,116,111,114,41,10,102,97,99,116,111,114,32,61,32,110,117,109,98,101,114,32,47,32,34,45,34,32,102,97,99,116,111,114,32,47,32,34,40,34,32,115,117,109,32,34,41,34,10,110,117,109,98,101,114,32,61,32,49,42,100,105,103,105,116,10,98,108,97,110,107,32,61,32,49,42,119,115,112,10]) H)
 (rt false O (.str []) H)))) := by kernel_rfl
theorem Dj (t0 : V) (H : Qa) : E K7 [t0] H = MP H.length t0 H := (Yu Try.func8 (by kernel_rfl) (by kernel_rfl) (by kernel_rfl)).trans (by kernel_rfl)
def Eb : Code := ZK Try.f9
def EM : Ks := []
def L2 (O : Nat) : KC (Out × Qa) := ZN Try.prog D false O 31 Try.f9.results.toList
def E0 (O : Nat) (c : Code) (k : KC (Out × Qa)) (t : Ts) (H : Qa) (d : Ds) : Option (Out × Qa) := xC Try.prog O false EM E 31 c k t H d
def Mk (O : Nat) (t0 t1 : V) (H : Qa) : Option (Out × Qa) := E0 O Eb (L2 O) [(0,t0),(1,t1)] H []
theorem Pn (O : Nat) (t0 t1 : V) (H : Qa) : Mk O t0 t1 H =
 beff (Z8 H t0) fun v0 h1 =>
 beff (Z8 h1 t1) fun v2 h3 =>
 bnd (Z2 v0 0) fun v4 =>
 bnd (QN false 1 h3 v4) fun v5 =>
 bnd (Z2 v2 0) fun v6 =>
 bnd (QN false 1 h3 v6) fun v7 =>
 bnd (Qr .eql 6 v5 v7) fun v8 =>
 bnd (gua v8 true (Z2 v0 3) (some (.tup []))) fun v9 =>
 bnd (gua v8 true (QN false 1 h3 v9) (some (.tup []))) fun v10 =>
 bnd (gua v8 true (Z2 v2 3) (some (.tup []))) fun v11 =>
 bnd (gua v8 true (QN false 1 h3 v11) (some (.tup []))) fun v12 =>
 bnd (gua v8 true (Qr .eql 0 v10 v12) (some (.tup []))) fun v13 =>
 bnd (ZF v8 v13 (.bool false)) fun v14 =>
 bnd (gua v14 true (Z2 v0 1) (some (.tup []))) fun v15 =>
 bnd (gua v14 true (QN false 1 h3 v15) (some (.tup []))) fun v16 =>
 bnd (gua v14 true (Z2 v2 1) (some (.tup []))) fun v17 =>
 bnd (gua v14 true (QN false 1 h3 v17) (some (.tup []))) fun v18 =>
 bcall (gua v14 true (E V5 [v16,v18] h3) (some (.ret (.tup []),h3))) (fun v19 h20 =>
 bnd (ZF v14 v19 (.bool false)) fun v21 =>
 bnd (gua v21 true (Z2 v0 2) (some (.tup []))) fun v22 =>
 bnd (gua v21 true (QN false 1 h20 v22) (some (.tup []))) fun v23 =>
 bnd (gua v21 true (Z2 v2 2) (some (.tup []))) fun v24 =>
 bnd (gua v21 true (QN false 1 h20 v24) (some (.tup []))) fun v25 =>
 bcall (gua v21 true (E V5 [v23,v25] h20) (some (.ret (.tup []),h20))) (fun v26 h27 =>
 bnd (ZF v21 v26 (.bool false)) fun v28 =>
 rt false O v28 h27)
 (fun v26 h27 => pn false O v26 h27))
 (fun v19 h20 => pn false O v19 h20) := by kernel_rfl
theorem Pv (t0 t1 : V) (H : Qa) : E WH [t0,t1] H = Mk H.length t0 t1 H := (Yu Try.func9 (by kernel_rfl) (by kernel_rfl) (by kernel_rfl)).trans (by kernel_rfl)
def L4 : Code := ZK Try.f10
def En : Ks := []
def Di (O : Nat) : KC (Out × Qa) := ZN Try.prog D false O 7 Try.f10.results.toList
def Ep (O : Nat) (c : Code) (k : KC (Out × Qa)) (t : Ts) (H : Qa) (d : Ds) : Option (Out × Qa) := xC Try.prog O false En E 7 c k t H d
def Nk (O : Nat) (t0 : V) (H : Qa) : Option (Out × Qa) := Ep O L4 (Di O) [(0,t0)] H []
theorem Pk (O : Nat) (t0 : V) (H : Qa) : Nk O t0 H =
 beff (Z8 H (.agg [(.str []),.nils,.nils,(.bool false)])) fun v0 h1 =>
 bcall (E V9 [] h1) (fun v2 h3 =>
 bnd (Kl 1 (.agg [(.str []),(.str []),.nils,.nils,(.bool false)]) h3 v2 t0) fun v4 =>
 bnd (Ka 1 true 4 v4) fun v5 =>
 beff (YC O 4 h3 v0 v5) fun v6 h7 =>
 bnd (QN true 4 h7 v0) fun v8 =>
 rt false O v8 h7)
 (fun v2 h3 => pn false O v2 h3) := by kernel_rfl
theorem Fi (t0 : V) (H : Qa) : E WM [t0] H = Nk H.length t0 H := (Yu Try.func10 (by kernel_rfl) (by kernel_rfl) (by kernel_rfl)).trans (by kernel_rfl)
def Gw : Code := ZK Try.f11
def Dg : Ks := []
def GL (O : Nat) : KC (Out × Qa) := ZN Try.prog D false O 24 Try.f11.results.toList
def PM (O : Nat) (c : Code) (k : KC (Out × Qa)) (t : Ts) (H : Qa) (d : Ds) : Option (Out × Qa) := xC Try.prog O false Dg E 24 c k t H d
def Lj (O : Nat) (t0 : V) (H : Qa) : Option (Out × Qa) := PM O Gw (GL O) [(0,t0)] H []
theorem FV (O : Nat) (t0 : V) (H : Qa) : Lj O t0 H =
 beff (Z8 H (.agg [(.str []),.nils,.nils,(.bool false)])) fun v0 h1 =>
 bnd (Qr .eql 6 t0 (.str [106,115,111,110])) fun v2 =>
 cnd v2
 (bnd (QQ 1 2 (.str []) [(0,(.str [115,116,114,105,110,103])),(1,(.str [110,117,109,98,101,114]))]) fun v3 =>
 bnd (QQ 1 1 (.str []) [(0,(.str [119,115]))]) fun v4 =>
 bnd (QT [(.str []),.nils,.nils,(.bool false)] [(0,1),(1,1),(2,1),(3,1)] [(0,(.str [118,97,108,117,101])),(1,v3),(2,v4),(3,(.bool true))]) fun v5 =>
 beff (YC O 4 h1 v0 v5) fun v6 h7 =>
 bnd (QN true 4 h7 v0) fun v8 =>
 rt false O v8 h7)
 (bnd (Qr .eql 6 t0 (.str [99,115,118])) fun v9 =>
 cnd v9
 (bnd (QQ 1 3 (.str []) [(0,(.str [113,117,111,116,101,100])),(1,(.str [98,97,114,101])),(2,(.str [101,110,100]))]) fun v10 =>
 bnd (QT [(.str []),.nils,.nils,(.bool false)] [(0,1),(1,1),(2,1),(3,1)] [(0,(.str [102,105,108,101])),(1,v10)]) fun v11 =>
 beff (YC O 4 h1 v0 v11) fun v12 h13 =>
 bnd (QN true 4 h13 v0) fun v14 =>
 rt false O v14 h13)
 (bnd (Qr .eql 6 t0 (.str [105,110,105])) fun v15 =>
 cnd v15
 (bnd (QQ 1 3 (.str []) [(0,(.str [107,101,121])),(1,(.str [118,97,108,117,101])),(2,(.str [110,101,119,108,105,110,101]))]) fun v16 =>
 bnd (QQ 1 1 (.str []) [(0,(.str [98,108,97,110,107]))]) fun v17 =>
 bnd (QT [(.str []),.nils,.nils,(.bool false)] [(0,1),(1,1),(2,1),(3,1)] [(0,(.str [102,105,108,101])),(1,v16),(2,v17)]) fun v18 =>
 beff (YC O 4 h1 v0 v18) fun v19 h20 =>
 bnd (QN true 4 h20 v0) fun v21 =>
 rt false O v21 h20)
 (bnd (Qr .eql 6 t0 (.str [115,117,109,115])) fun v22 =>
 cnd v22
 (bnd (QQ 1 1 (.str []) [(0,(.str [110,117,109,98,101,114]))]) fun v23 =>
 bnd (QQ 1 1 (.str []) [(0,(.str [98,108,97,110,107]))]) fun v24 =>
 bnd (QT [(.str []),.nils,.nils,(.bool false)] [(0,1),(1,1),(2,1),(3,1)] [(0,(.str [115,117,109])),(1,v23),(2,v24)]) fun v25 =>
 beff (YC O 4 h1 v0 v25) fun v26 h27 =>
 bnd (QN true 4 h27 v0) fun v28 =>
 rt false O v28 h27)
 (bnd (QT [(.str []),.nils,.nils,(.bool false)] [(0,1),(1,1),(2,1),(3,1)] []) fun v29 =>
 beff (YC O 4 h1 v0 v29) fun v30 h31 =>
 bnd (QN true 4 h31 v0) fun v32 =>
 rt false O v32 h31)))) := by kernel_rfl
theorem FI (t0 : V) (H : Qa) : E VO [t0] H = Lj H.length t0 H := (Yu Try.func11 (by kernel_rfl) (by kernel_rfl) (by kernel_rfl)).trans (by kernel_rfl)
def GZ : Code := ZK Try.f18
def Ph : Ks := []
def E5 (O : Nat) : KC (Out × Qa) := ZN Try.prog D false O 18 Try.f18.results.toList
def Pa (O : Nat) (c : Code) (k : KC (Out × Qa)) (t : Ts) (H : Qa) (d : Ds) : Option (Out × Qa) := xC Try.prog O false Ph E 18 c k t H d
def MH (O : Nat) (H : Qa) : Option (Out × Qa) := Pa O GZ (E5 O) [] H []
theorem FF (O : Nat) (H : Qa) : MH O  H =
 beff (Vw H) fun v0 h1 =>
 bnd (QQ 1 2 (.str []) [(0,(.str [115,116,114,105,110,103])),(1,(.str [110,117,109,98,101,114]))]) fun v2 =>
 bnd (QQ 1 1 (.str []) [(0,(.str [119,115]))]) fun v3 =>
 bnd (QT [(.str []),.nils,.nils,(.bool false)] [(0,1),(1,1),(2,1),(3,1)] [(0,(.str [118,97,108,117,101])),(1,v2),(2,v3),(3,(.bool true))]) fun v4 =>
 bnd (QT [(.str []),(.str []),.nils,.nils,(.bool false)] [(0,1),(1,4)] [(0,(.str [118,97,108,117,101,32,61,32,111,98,106,101,99,116,32,47,32,97,114,114,97,121,32,47,32,115,116,114,105,110,103,32,47,32,110,117,109,98,101,114,32,47,32,37,115,34,116,114,117,101,34,32,47,32,37,115,34,102,97,108,115,101,34,32,47,32,37,115,34,110,117,108,108,34,10,111,98,106,101,99,116,32,61,32,34,123,34,32,91,109,101,109,98,101,114,32,42,40,34,44,34,32,109,101,109,98,101,114,41,93,32,34,125,34,10,109,101,109,98,101,114,32,61,32,115,116,114,105,110,103,32,34,58,34,32,118,97,108,117,101,10,97,114,114,97,121,32,61,32,34,91,34,32,91,118,97,108,117,101,32,42,40,34,44,34,32,118,97,108,117,101,41,93,32,34,93,34,10,115,116,114,105,110,103,32,61,32,37,120,50,50,32,42,40,37,120,50,48,45,50,49,32,47,32,37,120,50,51,45,53,66,32,47,32,37,120,53,68,45,49,48,70,70,70,70,32,47,32,37,120,53,67,32,101,115,99,97,112,101,41,32,37,120,50,50,10,101,115,99,97,112,101,32,61,32,37,120,50,50,32,47,32,37,120,53,67,32,47,32,34,47,34,32,47,32,37,115,34,98,34,32,47,32,37,115,34,102,34,32,47,32,37,115,34,110,34,32,47,32,37,115,34,114,34,32,47,32,37,115,34,116,34,32,47,32,37,115,34,117,34,32,52,104,101,120,100,105,103,10,110,117,109,98,101,114,32,61,32,91,34,45,34,93,32,40,34,48,34,32,47,32,37,120,51,49,45,51,57,32,42,100,105,103,105,116,41,32,91,34,46,34,32,49,42,100,105,103,105,116,93,32,91,34,101,34,32,91,34,43,34,32,47,32,34,45,34,93,32,49,42,100,105,103,105,116,93,10,119,115,32,61,32,49,42,40,37,120,50,48,32,47,32,37,120,48,57,32,47,32,37,120,48,65,32,47,32,37,120,48,68,41,10])),(1,v4)]) fun v5 =>
 beff (JA O 1 h1 v0 (.str [106,115,111,110]) v5) fun v6 h7 =>
 bnd (QQ 1 3 (.str []) [(0,(.str [113,117,111,116,101,100])),(1,(.str [98,97,114,101])),(2,(.str [101,110,100]))]) fun v8 =>
 bnd (QT [(.str []),.nils,.nils,(.bool false)] [(0,1),(1,1),(2,1),(3,1)] [(0,(.str [102,105,108,101])),(1,v8)]) fun v9 =>
 bnd (QT [(.str []),(.str []),.nils,.nils,(.bool false)] [(0,1),(1,4)] [(0,(.str [102,105,108,101,32,61,32,114,101,99,111,114,100,32,42,40,101,110,100,32,114,101,99,111,114,100,41,10,114,101,99,111,114,100,32,61,32,91,102,105,101,108,100,93,32,42,40,34,44,34,32,91,102,105,101,108,100,93,41,10,102,105,101,108,100,32,61,32,113,117,111,116,101,100,32,47,32,98,97,114,101,10,113,117,111,116,101,100,32,61,32,100,113,117,111,116,101,32,42,40,37,120,48,48,45,50,49,32,47,32,37,120,50,51,45,70,70,32,47,32,50,100,113,117,111,116,101,41,32,100,113,117,111,116,101,10,98,97,114,101,32,61,32,49,42,40,37,120,50,48,45,50,49,32,47,32,37,120,50,51,45,50,66,32,47,32,37,120,50,68,45,70,70,41,10,101,110,100,32,61,32,91,99,114,93,32,108,102,10])),(1,v9)]) fun v10 =>
 beff (JA O 1 h7 v0 (.str [99,115,118]) v10) fun v11 h12 =>
 bnd (QQ 1 3 (.str []) [(0,(.str [107,101,121])),(1,(.str [118,97,108,117,101])),(2,(.str [110,101,119,108,105,110,101]))]) fun v13 =>
 bnd (QQ 1 1 (.str []) [(0,(.str [98,108,97,110,107]))]) fun v14 =>
 bnd (QT [(.str []),.nils,.nils,(.bool false)] [(0,1),(1,1),(2,1),(3,1)] [(0,(.str [102,105,108,101])),(1,v13),(2,v14)]) fun v15 =>
 bnd (QT [(.str []),(.str []),.nils,.nils,(.bool false)] [(0,1),(1,4)] [(0,(.str [102,105,108,101,32,61,32,42,40,115,101,99,116,105,111,110,32,47,32,101,110,116,114,121,32,47,32,110,101,119,108,105,110,101,41,10,115,101,99,116,105,111,110,32,61,32,34,91,34,32,107,101,121,32,34,93,34,32,110,101,119,108,105,110,101,10,101,110,116,114,121,32,61,32,107,101,121,32,34,61,34,32,91,118,97,108,117,101,93,32,110,101,119,108,105,110,101,10,107,101,121,32,61,32,97,108,112,104,97,32,42,40,97,108,112,104,97,32,47,32,100,105,103,105,116,32,47,32,34,45,34,32,47,32,34,46,34,41,10,118,97,108,117,101,32,61,32,37,120,50,50,32,42,40,37,120,50,48,45,50,49,32,47,32,37,120,50,51,45,70,70,41,32,37,120,50,50,10,110,101,119,108,105,110,101,32,61,32,91,99,114,93,32,108,102,10,98,108,97,110,107,32,61,32,49,42,40,115,112,32,47,32,104,116,97,98,41,32,47,32,34,59,34,32,42,40,37,120,50,48,45,70,70,41,10])),(1,v15)]) fun v16 =>
 beff (JA O 1 h12 v0 (.str [105,110,105]) v16) fun v17 h18 =>
 bnd (QQ 1 1 (.str []) [(0,(.str [110,117,109,98,101,114]))]) fun v19 =>
 bnd (QQ 1 1 (.str []) [(0,(.str [98,108,97,110,107]))]) fun v20 =>
 bnd (QT [(.str []),.nils,.nils,(.bool false)] [(0,1),(1,1),(2,1),(3,1)] [(0,(.str [115,117,109])),(1,v19),(2,v20)]) fun v21 =>
 bnd (QT [(.str []),(.str []),.nils,.nils,(.bool false)] [(0,1),(1,4)] [(0,(.str [115,117,109,32,61,32,116,101,114,109,32,42,40,40,34,43,34,32,47,32,34,45,34,41,32,116,101,114,109,41,10,116,101,114,109,32,61,32,102,97,99,116,111,114,32,42,40,40,34,42,34,32,47,32,34,47,34,41,32,102,97,99,116,111,114,41,10,102,97,99,116,111,114,32,61,32,110,117,109,98,101,114,32,47,32,34,45,34,32,102,97,99,116,111,114,32,47,32,34,40,34,32,115,117,109,32,34,41,34,10,110,117,109,98,101,114,32,61,32,49,42,100,105,103,105,116,10,98,108,97,110,107,32,61,32,49,42,119,115,112,10])),(1,v21)]) fun v22 =>
 beff (JA O 1 h18 v0 (.str [115,117,109,115]) v22) fun v23 h24 =>
 rt false O v0 h24 := by kernel_rfl
theorem FP (H : Qa) : E V9 [] H = MH H.length  H := (Yu Try.func18 (by kernel_rfl) (by kernel_rfl) (by kernel_rfl)).trans (by kernel_rfl)
def Jk : Code := ZK Try.f19
def VI : Ks := [(4,[0,1,5])]
def Wq (O : Nat) : KC (Out × Qa) := ZN Try.prog D false O 26 Try.f19.results.toList
def Vv (O : Nat) (c : Code) (k : KC (Out × Qa)) (t : Ts) (H : Qa) (d : Ds) : Option (Out × Qa) := xC Try.prog O false VI E 26 c k t H d
def Ui (O : Nat) (t0 t1 t5 : V) (H : Qa) : Option (Out × Qa) :=
JY (fun t H d again => Vv O (cAt [1,1,0,1,0,0] Jk) (Zc VI (cAt [1,1,0,1,0,0] Jk) again ((Yi 0 ((Y9 (fun _ t => Vv O (cAt [1,1,1] Jk) (Wq O) (ZU VI (cAt [1,1,1] Jk) t)) (Wq O)))))) t H d) [(0,t0),(1,t1),(5,t5)] H []
theorem Lp (O : Nat) (t0 t1 t5 : V) (H : Qa) : Ui O t0 t1 t5 H =
 bnd (Yb t0) fun v3 =>
 bnd (Qr .lss 6 t5 v3) fun v4 =>
 cnd v4
 (bnd (Z4 1 t0 t5) fun v5 =>
 bnd (QN false 1 H v5) fun v6 =>
 bnd (Z4 1 t1 t5) fun v7 =>
 bnd (QN false 1 H v7) fun v8 =>
 bnd (Qr .neq 6 v6 v8) fun v9 =>
 cnd v9
 (rt false O (.bool false) H)
 (bnd (Qr .add 6 t5 (.int .i64 1)) fun v10 =>
 Ui O t0 t1 v10 H))
 (rt false O (.bool true) H) := (NU (cAt [1,1,0,1,0,0] Jk) ((Yi 0 ((Y9 (fun _ t => Vv O (cAt [1,1,1] Jk) (Wq O) (ZU VI (cAt [1,1,1] Jk) t)) (Wq O))))) _ H []).trans (by kernel_rfl)
def MW (O : Nat) (t0 t1 : V) (H : Qa) : Option (Out × Qa) := Vv O Jk (Wq O) [(0,t0),(1,t1)] H []
theorem PI (O : Nat) (t0 t1 : V) (H : Qa) : MW O t0 t1 H =
 bnd (Yb t0) fun v0 =>
 bnd (Yb t1) fun v1 =>
 bnd (Qr .neq 6 v0 v1) fun v2 =>
 cnd v2
 (rt false O (.bool false) H)
 (Ui O t0 t1 (.int .i64 0) H) := by kernel_rfl
theorem E4 (t0 t1 : V) (H : Qa) : E V5 [t0,t1] H = MW H.length t0 t1 H := (Yu Try.func19 (by kernel_rfl) (by kernel_rfl) (by kernel_rfl)).trans (by kernel_rfl)
end
end Go.Proofs.Ythpghekebjadcaa
end
