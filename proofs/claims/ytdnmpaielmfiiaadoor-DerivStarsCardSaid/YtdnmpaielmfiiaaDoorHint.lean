/- Hint: a part of the proof that each law of this seat answers true at every input. No condition. -/
import Derived.Test.YtdnmpaielmfiiaaDoorEvG
import Derived.Test.YtdnmpaielmfiiaaDoorProg
set_option linter.unusedVariables false
set_option linter.unusedSimpArgs false
set_option maxRecDepth 20000
section
namespace Go.Proofs.YtdnmpaielmfiiaaDoor
open Go Go.Ev
noncomputable section
def Qul : FuncId := 10
def Nk : FuncId := 12
def JH : FuncId := 13
def Jv : FuncId := 15
def Y5 : FuncId := 16
def MX : FuncId := 18
def VU : FuncId := 19
def UO : FuncId := 20
def Vi : FuncId := 22
def WI : FuncId := 23
def BH : FuncId := 24
def V9 : FuncId := 26
def Ul : FuncId := 27
def N8 : FuncId := 28
def DZ : FuncId := 29
def EC : FuncId := 30
def EW : FuncId := 31
def PX : FuncId := 32
def Vy : FuncId := 33
def NU : FuncId := 34
def DY : FuncId := 35
def Ge : FuncId := 37
def L2 : FuncId := 38
def Eg : FuncId := 39
def US : FuncId := 40
def Ez : FuncId := 41
def Dw : FuncId := 42
def E6 : FuncId := 43
def Ef : FuncId := 44
def Bt : FuncId := 45
def Lw : FuncId := 46
def Fl : FuncId := 47
def LR : FuncId := 48
def BI : FuncId := 49
def Fp : FuncId := 50
def UU : FuncId := 51
def VB : FuncId := 52
def EG : FuncId := 53
def FJ : FuncId := 54
def Cv : FuncId := 55
def K1 : FuncId := 56
def D5 : FuncId := 59
def AO : FuncId := 60
def PP : FuncId := 61
def Uw : FuncId := 62
def QeL : FuncId := 63
def Quc : FuncId := 64
def Fe : FuncId := 65
def Bv : FuncId := 66
def Jk : FuncId := 67
def DO : FuncId := 68
def BF : FuncId := 69
def Xw : FuncId := 71
def Nh : FuncId := 76
def Bf : FuncId := 77
def Uj : FuncId := 81
def Ad : FuncId := 82
def QfM : FuncId := 84
def Xj : FuncId := 85
def D3 : FuncId := 86
def NW : FuncId := 87
def ksT : List (Nat × Ks) := [(4,[(4,[5,6,7])]),
 (6,[(3,[0,1]),(5,[0,1])]),
 (8,[(7,[5,6,7,8])]),
 (9,[(8,[7,8,9,10,11,12])]),
 (10,[(6,[0,1,2,7])]),
 (11,[(3,[1,3,4])]),
 (13,[(9,[])]),
 (14,[(7,[1,3]),(14,[1,4]),(18,[])]),
 (15,[(4,[2,3,5])]),
 (17,[(8,[1,2,4,5,6]),(13,[4,5]),(17,[1,2,4,8,9]),(24,[4])]),
 (20,[(2,[1,2,5])]),
 (22,[(4,[2,3,4,5]),(5,[2,3,4,5])]),
 (23,[(7,[1,2])]),
 (24,[(3,[0,1,4,5,6]),(4,[0,1,4,5,6])]),
 (25,[(2,[1,3]),(20,[])]),
 (26,[(5,[2,3,4,5,6]),(6,[2,3,4,5,6]),(11,[2,3,4]),(12,[2,3,4,7]),(13,[2,3,4,7])]),
 (30,[(3,[1,2,4,5,9,10,11]),(8,[4,5])]),
 (31,[(3,[1,4,5,13,14,15])]),
 (34,[(4,[0,1,4,5])]),
 (35,[(3,[0,1,5,6])]),
 (36,[(7,[1,2,3,7,8]),(13,[1,3,7,9]),(18,[1,2,3,7,10]),(22,[1,2,3,7,10,11,12]),(28,[1,3,7,13]),(32,[1,3,7,13,14,15]),(35,[7])]),
 (37,[(3,[0,1,5,6]),(4,[0,1,5,6])]),
 (40,[(3,[1,3,4]),(4,[1,3,4])]),
 (43,[(5,[0,3,5,6,7,8]),(10,[0,3,5,6,7,8,9]),(13,[0,3,5,6,7,8]),(6,[0,3,5,6,7,8]),(16,[5])]),
 (44,[(2,[0,1,7,8])]),
 (47,[(4,[0,2,3,10,11,12]),(8,[0,2,3,10,11,12]),(12,[0,2])]),
 (48,[(2,[1,4,7,8,9]),(7,[1,4,7,8,9])]),
 (51,[(5,[0,1,5,6]),(6,[0,1,5,6])]),
 (54,[(3,[0,1,2,7,8])]),
 (55,[(3,[2,3,4,5,6,7,12,13,14]),(4,[2,3,4,5,6,7,12,13,14])]),
 (56,[(10,[3,4,5]),(14,[3,4,5]),(11,[3,4,5]),(18,[1,3,6]),(23,[1,3,7]),(27,[1,3,7]),(24,[1,3,7])]),
 (59,[(2,[2,4,7,8])]),
 (65,[(4,[0,1,5]),(9,[0,1,5,6,7]),(10,[0,1,5,6,7])]),
 (68,[(3,[1,3,4]),(4,[1,3,4])]),
 (71,[(2,[0,1,2,6,7,8]),(7,[0,1,2,6]),(9,[0,1,2,6,7,8]),(16,[0,1,2,6])]),
 (73,[(13,[0,3,4,5,6]),(15,[0,4,6,34,35,36]),(19,[0,4,6,8,34,35,36]),(20,[0,4,6,34,35,36])]),
 (75,[(1,[0,2,3])]),
 (76,[(1,[0,1,2,3,8]),(4,[0,1,2,3,8,9])]),
 (77,[(3,[0,1,4,10,11]),(9,[0,10,13]),(15,[0,2,4,14,15]),(21,[0,14,17]),(32,[0,1,2,3,4,18,19,20,21]),(33,[0,1,2,3,4,18,19,20,21,22]),(41,[0,1,3,4,18,20,24]),(43,[0,3,4,18,24])]),
 (81,[(3,[3,7,8,9])]),
 (82,[(2,[0,2,4,10,11])]),
 (86,[(10,[0,1,5]),(11,[0,1,5]),(12,[0,1,5,39,40,41]),(16,[0,1,5,7,39,40,41]),(17,[0,1,5,39,40,41]),(22,[1,8,63,64,65])]),
 (87,[(1,[0,1,2,3,10])]),
 (91,[(3,[0,1])]),
 (92,[(1,[0,5,6]),(3,[0,3,4,5,6])]),
 (94,[(8,[0,5,6])]),
 (98,[(1,[0,1,4]),(20,[0,4,12]),(25,[0,4,12])]),
 (99,[(3,[0,1,2,3,4,10,11]),(7,[0,1,2,3,4,10,11,12,13]),(11,[0,1,3,4,10,11,12,13,14,15,16]),(18,[0,1,3,4,10,11,12,13,17]),(25,[0,3,4,10,11,12,13]),(28,[0,4,10,11,12,13])]),
 (102,[(4,[0,2]),(7,[0,2]),(10,[0,2])])]
def QfN : List (Nat × Ks) → Nat → Ks
 | [],_ => []
 | (i,k) :: r,f => match Nat.beq i f with
  | true => k
  | false => QfN r f
def Mh : List Nat → Nat → Bool
 | [],_ => false
 | i :: r,f => match Nat.beq i f with
  | true => true
  | false => Mh r f
def Pf : List (Nat × (Qr → List V → Qa → Option (Out × Qa))) := [(64,Ua 81)]
theorem QmE : ∀ p ∈ Pf,Uz p.2 := QkH (QlD 81) (QqT)
def YW : Hint := { keep := Mh [48,51,45],ks := QfN ksT,own := Mh [51,61,65,44,27,45,71,76,77,82,87,17],intr := GM [(85,iRd RE),(86,iRd UJ),(93,iRd gTZ),(63,iRd Lx),(84,iRd NI),(45,WC),(46,Bu)],orc := R8 Pf,fine := Qn6 QmE,nrm := Mh [],lend := Mh [] }
def D : ZF := XB Tryd.prog YW
def E : Qr := EV Tryd.prog YW D
end
end Go.Proofs.YtdnmpaielmfiiaaDoor
end
