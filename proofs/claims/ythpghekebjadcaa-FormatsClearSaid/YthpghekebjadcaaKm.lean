/- Km: a part of the proof that each law of this seat answers true at every input. No condition. -/
import Derived.Test.YthpghekebjadcaaKma
import Derived.Test.YthpghekebjadcaaKmb
import Derived.Test.YthpghekebjadcaaKmc
import Derived.Test.YthpghekebjadcaaKe
set_option linter.unusedVariables false
set_option linter.unusedSimpArgs false
set_option maxRecDepth 20000
section
namespace Go.Proofs.Ythpghekebjadcaa
open Go Go.Ev
noncomputable section
def Nn : KTr := (.nd 46 (Kq Jf (Q8 Cb)) (.nd 26 (ZB XQ) (.nd 16 (YI B5 (Q8 XP)) (.nd 10 (Q8 Xv) (.nd 6 (Kb EX) (.nd 5 (Kb EM) (.nd 4 (Q8 AW) .nil .nil) .nil) (.nd 7 (Q8 Ce) .nil .nil)) (.nd 14 (YI Bo (ZB EU)) (.nd 13 (YI Bq (Q8 CR)) (.nd 12 (YI BJ (Q8 AX)) .nil .nil) .nil) (.nd 15 (Q8 Di) .nil .nil))) (.nd 22 (Q8 Cn) (.nd 20 (Q8 Xy) (.nd 18 (Kb AU) (.nd 17 Qd8 .nil .nil) .nil) (.nd 21 (ZB EG) .nil .nil)) (.nd 24 (ZB DU) (.nd 23 (Q8 AF) .nil .nil) (.nd 25 (Q8 A5) .nil .nil)))) (.nd 35 (YI Nm (Q8 Db)) (.nd 31 (ZB Cr) (.nd 29 (Q8 Ax) (.nd 28 (Kb Xf) (.nd 27 (ZB CX) .nil .nil) .nil) (.nd 30 (Q8 Az) .nil .nil)) (.nd 33 (ZB A0) (.nd 32 (ZB EB) .nil .nil) (.nd 34 (YI JG (Q8 XG)) .nil .nil))) (.nd 42 (ZB XA) (.nd 40 (Q8 Ad) (.nd 37 (ZB XF) (.nd 36 (ZB XD) .nil .nil) .nil) (.nd 41 (Q8 AQ) .nil .nil)) (.nd 44 (ZB XM) (.nd 43 (Q8 XE) .nil .nil) (.nd 45 (Q8 As) .nil .nil))))) (.nd 68 (Q8 QxH) (.nd 56 (WB Xb) (.nd 51 (ZB Xe) (.nd 49 (Q8 An) (.nd 48 (ZB C9) (.nd 47 (Q8 Dv) .nil .nil) .nil) (.nd 50 (ZB AI) .nil .nil)) (.nd 54 (YI V7 (Q8 Dy)) (.nd 53 (Q8 XL) (.nd 52 (Q8 EQ) .nil .nil) .nil) (.nd 55 (YI WZ (Q8 CY)) .nil .nil))) (.nd 64 (Q8 Cc) (.nd 59 (Q8 Cp) (.nd 58 (Q8 D7) (.nd 57 (ZB Cm) .nil .nil) .nil) (.nd 63 (Q8 Aa) .nil .nil)) (.nd 66 (ZB Ck) (.nd 65 (Q8 El) .nil .nil) (.nd 67 (Q8 DX) .nil .nil)))) (.nd 80 (ZB Dr) (.nd 73 (ZB Es) (.nd 71 (WB EF) (.nd 70 (KW XS) (.nd 69 (Q8 Dt) .nil .nil) .nil) (.nd 72 (Q8 DL) .nil .nil)) (.nd 78 (ZB XH) (.nd 74 (ZB CZ) .nil .nil) (.nd 79 (Q8 Am) .nil .nil))) (.nd 102 (ZB EJ) (.nd 94 (ZB CE) (.nd 93 (KW ES) (.nd 81 (ZB E6) .nil .nil) .nil) (.nd 101 (KW A4) .nil .nil)) (.nd 105 (Q8 Xh) (.nd 103 (Q8 ET) .nil .nil) (.nd 106 (ZB E4) .nil .nil))))))
theorem QnN : Nn.All E := ⟨QqR,⟨Qqk,⟨Qjh,⟨Qkz,⟨Qnp,⟨QmY,⟨Qns,trivial,trivial⟩,trivial⟩,⟨QpS,trivial,trivial⟩⟩,⟨Qn8,⟨Qj4,⟨QiD,trivial,trivial⟩,trivial⟩,⟨QiQ,trivial,trivial⟩⟩⟩,⟨QsK,⟨QkT,⟨Qlv,⟨Ql2,trivial,trivial⟩,trivial⟩,⟨Qsk,trivial,trivial⟩⟩,⟨QqJ,⟨Qnb,trivial,trivial⟩,⟨QhH,trivial,trivial⟩⟩⟩⟩,⟨QqD,⟨QlE,⟨Qm4,⟨Qkg,⟨QlN,trivial,trivial⟩,trivial⟩,⟨Qsv,trivial,trivial⟩⟩,⟨Qqg,⟨Qjc,trivial,trivial⟩,⟨Qpq,trivial,trivial⟩⟩⟩,⟨Qkv,⟨Qry,⟨Qqn,⟨Qiz,trivial,trivial⟩,trivial⟩,⟨QnU,trivial,trivial⟩⟩,⟨Qjv,⟨Qsr,trivial,trivial⟩,⟨Qi4,trivial,trivial⟩⟩⟩⟩⟩,⟨Qjy,⟨QkA,⟨Qln,⟨QpL,⟨Qny,⟨QoH,trivial,trivial⟩,trivial⟩,⟨Qp7,trivial,trivial⟩⟩,⟨QsT,⟨QoG,⟨Qr4,trivial,trivial⟩,trivial⟩,⟨Qks,trivial,trivial⟩⟩⟩,⟨QpK,⟨Qpl,⟨QrQ,⟨Qq6,trivial,trivial⟩,trivial⟩,⟨Qiv,trivial,trivial⟩⟩,⟨Qmc,⟨Qk3,trivial,trivial⟩,⟨Qk2,trivial,trivial⟩⟩⟩⟩,⟨Qkm,⟨QmX,⟨Qqo,⟨Qpc,⟨QmP,trivial,trivial⟩,trivial⟩,⟨QhR,trivial,trivial⟩⟩,⟨QkY,⟨Qmr,trivial,trivial⟩,⟨QoU,trivial,trivial⟩⟩⟩,⟨Qj9,⟨QjS,⟨Qoh,⟨Qlj,trivial,trivial⟩,trivial⟩,⟨Qnt,trivial,trivial⟩⟩,⟨Qjn,⟨Qrr,trivial,trivial⟩,⟨Qkc,trivial,trivial⟩⟩⟩⟩⟩⟩
theorem kev {n f : Nat} {a : List V} {H : Qa} {x : Out × Qa} (h : BV Nn n f a H = some x) : E f a H = some x := QbE QnN n f a H x h
end
end Go.Proofs.Ythpghekebjadcaa
end
