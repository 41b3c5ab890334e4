/- Hint: a part of the proof that each law of this seat answers true at every input. No condition. -/
import Derived.Test.YtdnmpaielmfiiaaDoorEvG
import Derived.Test.YtdnmpaielmfiiaaDoorProg
set_option linter.unusedVariables false
set_option linter.unusedSimpArgs false
set_option maxRecDepth 20000
section
namespace Go.Proofs.YtdnmpaielmfiiaaDoor
open Go Go.Ev
noncomputable section
def X3 : FuncId := 3
def Qa6 : FuncId := 4
def Qf9 : FuncId := 7
def QaA : FuncId := 8
def Bh : FuncId := 11
def U4 : FuncId := 12
def Jq : FuncId := 13
def Kp : FuncId := 14
def Ju : FuncId := 15
def YG : FuncId := 16
def KA : FuncId := 17
def RO : FuncId := 18
def VI : FuncId := 19
def Un : FuncId := 20
def VT : FuncId := 22
def WC : FuncId := 23
def BJ : FuncId := 24
def Rz : FuncId := 25
def UY : FuncId := 26
def U3 : FuncId := 27
def Nq : FuncId := 28
def Dw : FuncId := 29
def DZ : FuncId := 30
def ER : FuncId := 31
def Px : FuncId := 32
def W9 : FuncId := 33
def N8 : FuncId := 34
def AC : FuncId := 35
def L9 : FuncId := 37
def F1 : FuncId := 38
def PR : FuncId := 39
def Ub : FuncId := 40
def De : FuncId := 41
def Dn : FuncId := 42
def Dk : FuncId := 43
def L4 : FuncId := 44
def B8 : FuncId := 45
def LJ : FuncId := 46
def Gm : FuncId := 47
def P6 : FuncId := 48
def Rq : FuncId := 49
def LI : FuncId := 50
def U2 : FuncId := 51
def Vm : FuncId := 52
def EW : FuncId := 53
def FK : FuncId := 54
def AG : FuncId := 55
def Wm : FuncId := 56
def AM : FuncId := 59
def Cb : FuncId := 60
def PC : FuncId := 61
def Um : FuncId := 62
def QcL : FuncId := 63
def NB : FuncId := 64
def GE : FuncId := 65
def BV : FuncId := 66
def Jd : FuncId := 67
def Ce : FuncId := 68
def BG : FuncId := 69
def QdT : FuncId := 71
def NU : FuncId := 76
def RG : FuncId := 77
def UD : FuncId := 81
def E0 : FuncId := 82
def QhM : FuncId := 84
def Cp : FuncId := 85
def EK : FuncId := 86
def NW : FuncId := 87
def ksT : List (Nat × Ks) := [(4,[(4,[5,6,7])]),
 (6,[(3,[0,1]),(5,[0,1])]),
 (8,[(7,[5,6,7,8])]),
 (9,[(8,[7,8,9,10,11,12])]),
 (10,[(6,[0,1,2,7])]),
 (11,[(3,[1,3,4])]),
 (13,[(9,[])]),
 (14,[(7,[1,3]),(14,[1,4]),(18,[])]),
 (15,[(4,[2,3,5])]),
 (17,[(8,[1,2,4,5,6]),(13,[4,5]),(17,[1,2,4,8,9]),(24,[4])]),
 (20,[(2,[1,2,5])]),
 (22,[(4,[2,3,4,5]),(5,[2,3,4,5])]),
 (23,[(7,[1,2])]),
 (24,[(3,[0,1,4,5,6]),(4,[0,1,4,5,6])]),
 (25,[(2,[1,3]),(20,[])]),
 (26,[(5,[2,3,4,5,6]),(6,[2,3,4,5,6]),(11,[2,3,4]),(12,[2,3,4,7]),(13,[2,3,4,7])]),
 (30,[(3,[1,2,4,5,9,10,11]),(8,[4,5])]),
 (31,[(3,[1,4,5,13,14,15])]),
 (34,[(4,[0,1,4,5])]),
 (35,[(3,[0,1,5,6])]),
 (36,[(7,[1,2,3,7,8]),(13,[1,3,7,9]),(18,[1,2,3,7,10]),(22,[1,2,3,7,10,11,12]),(28,[1,3,7,13]),(32,[1,3,7,13,14,15]),(35,[7])]),
 (37,[(3,[0,1,5,6]),(4,[0,1,5,6])]),
 (40,[(3,[1,3,4]),(4,[1,3,4])]),
 (43,[(5,[0,3,5,6,7,8]),(10,[0,3,5,6,7,8,9]),(13,[0,3,5,6,7,8]),(6,[0,3,5,6,7,8]),(16,[5])]),
 (44,[(2,[0,1,7,8])]),
 (47,[(4,[0,2,3,10,11,12]),(8,[0,2,3,10,11,12]),(12,[0,2])]),
 (48,[(2,[1,4,7,8,9]),(7,[1,4,7,8,9])]),
 (51,[(5,[0,1,5,6]),(6,[0,1,5,6])]),
 (54,[(3,[0,1,2,7,8])]),
 (55,[(3,[2,3,4,5,6,7,12,13,14]),(4,[2,3,4,5,6,7,12,13,14])]),
 (56,[(10,[3,4,5]),(14,[3,4,5]),(11,[3,4,5]),(18,[1,3,6]),(23,[1,3,7]),(27,[1,3,7]),(24,[1,3,7])]),
 (59,[(2,[2,4,7,8])]),
 (65,[(4,[0,1,5]),(9,[0,1,5,6,7]),(10,[0,1,5,6,7])]),
 (68,[(3,[1,3,4]),(4,[1,3,4])]),
 (71,[(2,[0,1,2,6,7,8]),(7,[0,1,2,6]),(9,[0,1,2,6,7,8]),(16,[0,1,2,6])]),
 (73,[(13,[0,3,4,5,6]),(15,[0,4,6,34,35,36]),(19,[0,4,6,8,34,35,36]),(20,[0,4,6,34,35,36])]),
 (75,[(1,[0,2,3])]),
 (76,[(1,[0,1,2,3,8]),(4,[0,1,2,3,8,9])]),
 (77,[(3,[0,1,4,10,11]),(9,[0,10,13]),(15,[0,2,4,14,15]),(21,[0,14,17]),(32,[0,1,2,3,4,18,19,20,21]),(33,[0,1,2,3,4,18,19,20,21,22]),(41,[0,1,3,4,18,20,24]),(43,[0,3,4,18,24])]),
 (81,[(3,[3,7,8,9])]),
 (82,[(2,[0,2,4,10,11])]),
 (86,[(10,[0,1,5]),(11,[0,1,5]),(12,[0,1,5,39,40,41]),(16,[0,1,5,7,39,40,41]),(17,[0,1,5,39,40,41]),(22,[1,8,63,64,65])]),
 (87,[(1,[0,1,2,3,10])]),
 (91,[(3,[0,1])]),
 (92,[(1,[0,5,6]),(3,[0,3,4,5,6])]),
 (94,[(8,[0,5,6])]),
 (98,[(1,[0,1,4]),(20,[0,4,12]),(25,[0,4,12])]),
 (99,[(3,[0,1,2,3,4,10,11]),(7,[0,1,2,3,4,10,11,12,13]),(11,[0,1,3,4,10,11,12,13,14,15,16]),(18,[0,1,3,4,10,11,12,13,17]),(25,[0,3,4,10,11,12,13]),(28,[0,4,10,11,12,13])]),
 (102,[(4,[0,2]),(7,[0,2]),(10,[0,2])])]
def TH : List (Nat × Ks) → Nat → Ks
 | [],_ => []
 | (i,k) :: r,f => match Nat.beq i f with
  | true => k
  | false => TH r f
def Lt : List Nat → Nat → Bool
 | [],_ => false
 | i :: r,f => match Nat.beq i f with
  | true => true
  | false => Lt r f
def LH : List (Nat × (Qr → List V → Qa → Option (Out × Qa))) := [(64,U1 81)]
theorem QoH : ∀ p ∈ LH,Ux p.2 := Qk9 (QoI 81) (QjG)
def YP : Hint := { keep := Lt [48,51,45],ks := TH ksT,own := Lt [51,61,65,44,27,45,71,76,77,82,87,17],intr := FP [(85,iRd MR),(86,iRd UA),(93,iRd gTZ),(63,iRd Fs),(84,iRd Nl),(45,Wx),(46,Bq)],orc := MB LH,fine := Qp1 QoH,nrm := Lt [],lend := Lt [] }
def D : ZF := Qb4 Tryd.prog YP
def E : Qr := EV Tryd.prog YP D
end
end Go.Proofs.YtdnmpaielmfiiaaDoor
end
