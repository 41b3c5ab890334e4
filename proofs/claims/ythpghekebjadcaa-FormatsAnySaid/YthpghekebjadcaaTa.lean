/- Ta: a part of the proof that each law of this seat answers true at every input. No condition. -/
import Derived.Test.YthpghekebjadcaaHint
import Derived.Test.YthpghekebjadcaaFns
import Derived.Test.YthpghekebjadcaaEvH
import Derived.Test.YthpghekebjadcaaEvG
set_option linter.unusedVariables false
set_option linter.unusedSimpArgs false
set_option maxRecDepth 20000
section
namespace Go.Proofs.Ythpghekebjadcaa
open Go Go.Ev
set_option maxRecDepth 20000
abbrev nJ : List UInt8 := [106,115,111,110]
abbrev nC : List UInt8 := [99,115,118]
abbrev nI : List UInt8 := [105,110,105]
abbrev nS : List UInt8 := [115,117,109,115]
abbrev tV (l : List (List UInt8)) : V := .vs (l.map V.str)
theorem J1 (a b : List UInt8) (z : V) : QQ 1 2 z [(0,.str a),(1,.str b)] = some (.vs [.str a,.str b]) := by rw [Jc]; rfl
theorem KD (a b c : List UInt8) (z : V) : QQ 1 3 z [(0,.str a),(1,.str b),(2,.str c)] = some (.vs [.str a,.str b,.str c]) := by rw [Jc]; rfl
theorem F4 (a b c d : List UInt8) (z : V) : QQ 1 4 z [(0,.str a),(1,.str b),(2,.str c),(3,.str d)] = some (.vs [.str a,.str b,.str c,.str d]) := by rw [Jc]; rfl
theorem bc0 : QT [.str [],.nils,.nils,.bool false] [(0,1),(1,1),(2,1),(3,1)] [] = some (.agg [.str [],.nils,.nils,.bool false]) := by simp [splice]
theorem bc2 (a : List UInt8) (l : List V) : QT [.str [],.nils,.nils,.bool false] [(0,1),(1,1),(2,1),(3,1)] [(0,.str a),(1,.vs l)] = some (.agg [.str a,.vs l,.nils,.bool false]) := by simp [splice]
theorem bc3 (a : List UInt8) (l m : List V) : QT [.str [],.nils,.nils,.bool false] [(0,1),(1,1),(2,1),(3,1)] [(0,.str a),(1,.vs l),(2,.vs m)] = some (.agg [.str a,.vs l,.vs m,.bool false]) := by simp [splice]
theorem bc4 (a : List UInt8) (l m : List V) (b : Bool) : QT [.str [],.nils,.nils,.bool false] [(0,1),(1,1),(2,1),(3,1)] [(0,.str a),(1,.vs l),(2,.vs m),(3,.bool b)] = some (.agg [.str a,.vs l,.vs m,.bool b]) := by simp [splice]
theorem bo1 (t a : List UInt8) (l m : List V) (b : Bool) : QT [.str [],.str [],.nils,.nils,.bool false] [(0,1),(1,4)] [(0,.str t),(1,.agg [.str a,.vs l,.vs m,.bool b])] = some (.agg [.str t,.str a,.vs l,.vs m,.bool b]) := by simp [splice]
theorem bo2 (t a : List UInt8) (l : List V) (b : Bool) : QT [.str [],.str [],.nils,.nils,.bool false] [(0,1),(1,4)] [(0,.str t),(1,.agg [.str a,.vs l,.nils,.bool b])] = some (.agg [.str t,.str a,.vs l,.nils,.bool b]) := by simp [splice]
theorem L5 (H : Qa) (b : Blk) : rt false H.length (.mapr H.length) (b :: H) = some (.ret (.mapr H.length),b :: H) := by
 rw [Vg]
 simp [frz,rtF,V.maxRef]
abbrev cJ : List V := [.str [118,97,108,117,101],.vs [.str [115,116,114,105,110,103],.str [110,117,109,98,101,114]],.vs [.str [119,115]],.bool true]
abbrev cC : List V := [.str [102,105,108,101],.vs [.str [113,117,111,116,101,100],.str [98,97,114,101],.str [101,110,100]],.nils,.bool false]
abbrev cI : List V := [.str [102,105,108,101],.vs [.str [107,101,121],.str [118,97,108,117,101],.str [110,101,119,108,105,110,101]],.vs [.str [98,108,97,110,107]],.bool false]
abbrev cS : List V := [.str [115,117,109],.vs [.str [110,117,109,98,101,114]],.vs [.str [98,108,97,110,107]],.bool false]
abbrev dJ : List V := [.str [118,97,108,117,101],.vs [.str [115,116,114,105,110,103],.str [110,117,109,98,101,114]],.vs [.str [119,115]],.bool true]
abbrev dC : List V := [.str [102,105,108,101],.vs [.str [113,117,111,116,101,100],.str [98,97,114,101],.str [101,110,100]],.vs [],.bool false]
abbrev dI : List V := [.str [102,105,108,101],.vs [.str [107,101,121],.str [118,97,108,117,101],.str [110,101,119,108,105,110,101]],.vs [.str [98,108,97,110,107]],.bool false]
abbrev dS : List V := [.str [115,117,109],.vs [.str [110,117,109,98,101,114]],.vs [.str [98,108,97,110,107]],.bool false]
def ZI {α : Type} (s : List UInt8) (a b c d e : α) : α := if s = nJ then a else if s = nC then b else if s = nI then c else if s = nS then d else e
theorem U1 (s : List UInt8) : s = nJ ∨ s = nC ∨ s = nI ∨ s = nS ∨ (s ≠ nJ ∧ s ≠ nC ∧ s ≠ nI ∧ s ≠ nS) := by
 by_cases h1 : s = nJ
 ·exact .inl h1
 ·by_cases h2 : s = nC
  ·exact .inr (.inl h2)
  ·by_cases h3 : s = nI
   ·exact .inr (.inr (.inl h3))
   ·by_cases h4 : s = nS
    ·exact .inr (.inr (.inr (.inl h4)))
    ·exact .inr (.inr (.inr (.inr ⟨h1,h2,h3,h4⟩)))
theorem NC {α : Type} (a b c d e : α) : ZI nJ a b c d e = a := rfl
theorem Mw {α : Type} (a b c d e : α) : ZI nC a b c d e = b := rfl
theorem NG {α : Type} (a b c d e : α) : ZI nI a b c d e = c := rfl
theorem Mm {α : Type} (a b c d e : α) : ZI nS a b c d e = d := rfl
theorem Uu {α : Type} {s : List UInt8} (h : s ≠ nJ ∧ s ≠ nC ∧ s ≠ nI ∧ s ≠ nS) (a b c d e : α) : ZI s a b c d e = e := by
 unfold ZI; rw [if_neg h.1,if_neg h.2.1,if_neg h.2.2.1,if_neg h.2.2.2]
theorem NB : ∃ tj tc ti ts : List UInt8,(∀ H,E V9 [] H = some (.ret (.mapr H.length),.map [(.str nJ,.agg (.str tj :: cJ)),(.str nC,.agg (.str tc :: cC)),(.str nI,.agg (.str ti :: cI)),(.str nS,.agg (.str ts :: cS))] :: H)) ∧
  (tj ≠ [] ∧ tc ≠ [] ∧ ti ≠ [] ∧ ts ≠ []) ∧ ∀ s H,E K7 [.str s] H = some (.ret (.str (ZI s tj tc ti ts [])),H) := by
 have d1 : ¬ ([99,115,118] : List UInt8) = [106,115,111,110] := by decide
 have d2 : ¬ ([105,110,105] : List UInt8) = [106,115,111,110] := by decide
 have d3 : ¬ ([105,110,105] : List UInt8) = [99,115,118] := by decide
 have d4 : ¬ ([115,117,109,115] : List UInt8) = [106,115,111,110] := by decide
 have d5 : ¬ ([115,117,109,115] : List UInt8) = [99,115,118] := by decide
 have d6 : ¬ ([115,117,109,115] : List UInt8) = [105,110,105] := by decide
 have ha := fun H => (FP H).trans (FF H.length H)
 simp only [Qah,Qag,Qdi,Qdu,Qdr,Qdw,Qdh,Qdg,Qdf,Qcm,Qcq,Qfj,Qfl,Qgc,Qbu,Qbv,Qhn,if_true,if_false,Nat.zero_add,Option.map_some,List.nil_append,List.cons_append,Nat.reduceAdd,Pl,Za,Nat.le_refl,Nat.zero_le,or_true,and_self,Nat.max_self,J1,KD,bc4,bc2,bc3,bo1,bo2,L5,d1,d2,d3,d4,d5,d6] at ha
 refine ⟨_,_,_,_,ha,⟨by simp,by simp,by simp,by simp⟩,fun s H => ?_⟩
 rw [Dj,EN,ZI]
 by_cases h1 : s = [106,115,111,110]
 ·simp only [Qah,Qbe,Qem,Qda,Qgl,decide_true,if_true,h1]
 ·by_cases h2 : s = [99,115,118]
  ·simp only [Qah,Qbe,Qbd,Qem,Qda,Qgl,decide_true,decide_false,if_true,if_false,h2,d1]
  ·by_cases h3 : s = [105,110,105]
   ·simp only [Qah,Qbe,Qbd,Qem,Qda,Qgl,decide_true,decide_false,if_true,if_false,h3,d2,d3]
   ·by_cases h4 : s = [115,117,109,115]
    ·simp only [Qah,Qbe,Qbd,Qem,Qda,Qgl,decide_true,decide_false,if_true,if_false,h4,d4,d5,d6]
    ·simp only [Qah,Qbd,Qem,Qda,Qgl,decide_false,if_false,h1,h2,h3,h4]
def Y0 (s : List UInt8) : List V := ZI s dJ dC dI dS [.str [],.vs [],.vs [],.bool false]
theorem Gb (s : List UInt8) (H : Qa) : E VO [.str s] H = some (.ret (.agg (Y0 s)),H) := by
 have d1 : ¬ ([99,115,118] : List UInt8) = [106,115,111,110] := by decide
 have d2 : ¬ ([105,110,105] : List UInt8) = [106,115,111,110] := by decide
 have d3 : ¬ ([105,110,105] : List UInt8) = [99,115,118] := by decide
 have d4 : ¬ ([115,117,109,115] : List UInt8) = [106,115,111,110] := by decide
 have d5 : ¬ ([115,117,109,115] : List UInt8) = [99,115,118] := by decide
 have d6 : ¬ ([115,117,109,115] : List UInt8) = [105,110,105] := by decide
 rw [FI,FV]
 unfold Y0 ZI
 by_cases h1 : s = [106,115,111,110]
 ·simp only [Qah,Qag,Qbe,Qem,Qda,Qdc,Qao,Qgr,Qgq,Qgs,Qhe,Qhb,Qhf,Qdi,Qdu,Qdw,Qdh,Qdg,Qdf,Qhk,Qhi,Qcu,Qcm,Qcq,Qfy,Qhl,Qeq,Qfj,Qge,Qgd,Qbf,Qbx,Qcf,Qch,Qbw,Qde,Qdd,decide_true,if_true,List.drop_zero,List.drop_succ_cons,List.length_cons,List.length_nil,Nat.zero_add,Option.bind_some,Option.map_some,Bool.and_true,List.append_nil,Nat.reduceAdd,Z3,Yh,List.drop_nil,Za,Nat.le_refl,Nat.zero_le,or_true,and_self,Nat.max_self,List.take_zero,List.take_succ_cons,J1,KD,bc0,bc4,bc2,bc3,h1]
  done
 ·by_cases h2 : s = [99,115,118]
  ·simp only [Qah,Qag,Qbe,Qbd,Qem,Qda,Qdc,Qao,Qgr,Qgq,Qgs,Qhe,Qhb,Qhf,Qdi,Qdu,Qdr,Qdw,Qdh,Qdg,Qdf,Qhk,Qhi,Qcu,Qcm,Qcq,Qfy,Qhl,Qeq,Qfj,Qge,Qgd,Qbf,Qbx,Qcf,Qch,Qcd,Qbw,Qde,Qdd,decide_true,decide_false,if_true,if_false,List.drop_zero,List.drop_succ_cons,List.length_cons,List.length_nil,Nat.zero_add,Option.bind_some,Option.map_some,Bool.and_true,List.append_nil,Nat.reduceAdd,Z3,Yh,List.drop_nil,Za,Nat.le_refl,Nat.zero_le,or_true,and_self,Nat.max_self,List.take_zero,List.take_succ_cons,J1,KD,bc0,bc4,bc2,bc3,h2,d1]
  ·by_cases h3 : s = [105,110,105]
   ·simp only [Qah,Qag,Qbe,Qbd,Qem,Qda,Qdc,Qao,Qgr,Qgq,Qgs,Qhe,Qhb,Qhf,Qdi,Qdu,Qdw,Qdh,Qdg,Qdf,Qhk,Qhi,Qcu,Qcm,Qcq,Qfy,Qhl,Qeq,Qfj,Qge,Qgd,Qbf,Qbx,Qcf,Qch,Qbw,Qde,Qdd,decide_true,decide_false,if_true,if_false,List.drop_zero,List.drop_succ_cons,List.length_cons,List.length_nil,Nat.zero_add,Option.bind_some,Option.map_some,Bool.and_true,List.append_nil,Nat.reduceAdd,Z3,Yh,List.drop_nil,Za,Nat.le_refl,Nat.zero_le,or_true,and_self,Nat.max_self,List.take_zero,List.take_succ_cons,J1,KD,bc0,bc4,bc2,bc3,h3,d2,d3]
   ·by_cases h4 : s = [115,117,109,115]
    ·simp only [Qah,Qag,Qbe,Qbd,Qem,Qda,Qdc,Qao,Qgr,Qgq,Qgs,Qhe,Qhb,Qhf,Qdi,Qdu,Qdw,Qdh,Qdg,Qdf,Qhk,Qhi,Qcu,Qcm,Qcq,Qfy,Qhl,Qeq,Qfj,Qge,Qgd,Qbf,Qbx,Qcf,Qch,Qbw,Qde,Qdd,decide_true,decide_false,if_true,if_false,List.drop_zero,List.drop_succ_cons,List.length_cons,List.length_nil,Nat.zero_add,Option.bind_some,Option.map_some,Bool.and_true,List.append_nil,Nat.reduceAdd,Z3,Yh,List.drop_nil,Za,Nat.le_refl,Nat.zero_le,or_true,and_self,Nat.max_self,List.take_zero,List.take_succ_cons,J1,KD,bc0,bc4,bc2,bc3,h4,d4,d5,d6]
    ·simp only [Qah,Qag,Qbd,Qem,Qda,Qdc,Qao,Qgr,Qgq,Qgs,Qhe,Qhb,Qdi,Qdu,Qdr,Qdw,Qdh,Qdg,Qdf,Qhk,Qhi,Qcu,Qcm,Qcq,Qfy,Qhl,Qeq,Qfj,Qge,Qgd,Qbf,Qbx,Qcf,Qcd,Qbw,Qde,Qdd,decide_false,if_true,if_false,List.drop_zero,List.drop_succ_cons,List.length_cons,List.length_nil,Nat.zero_add,Option.bind_some,Option.map_some,Bool.and_true,List.append_nil,Nat.reduceAdd,Z3,Yh,List.drop_nil,Za,Nat.le_refl,Nat.zero_le,or_true,and_self,Nat.max_self,List.take_zero,List.take_succ_cons,J1,KD,bc0,bc4,bc2,bc3,h1,h2,h3,h4]
theorem Mg (j c i d z : V) (s : List UInt8) (H : Qa) : Kl 1 z (.map [(.str nJ,j),(.str nC,c),(.str nI,i),(.str nS,d)] :: H) (.mapr H.length) (.str s) = some (ZI s j c i d z) := by
 rw [Pj,EP]
 have k : ∀ a b : List UInt8,a ≠ b → sameKey (.str a) (.str b) = some false := fun a b h => by simp [sameKey,h]
 have r : Zd 1 (.str s) = true := rfl
 rcases U1 s with rfl | rfl | rfl | rfl | h
 ·rfl
 ·rfl
 ·rfl
 ·rfl
 ·rw [Uu h]
  simp only [Rt,r,if_true,QW,k _ _ h.1,k _ _ h.2.1,k _ _ h.2.2.1,k _ _ h.2.2.2,Option.bind_some]
theorem Mz : ∃ f : List UInt8 → List UInt8,(f nJ ≠ [] ∧ f nC ≠ [] ∧ f nI ≠ [] ∧ f nS ≠ []) ∧ f [120] = [] ∧ (∀ s H,E K7 [.str s] H = some (.ret (.str (f s)),H)) ∧ ∀ s H,E Kg [.str s] H = some (.ret (.str (f s)),H) := by
 obtain ⟨tj,tc,ti,ts,ha,hne,hr⟩ := NB
 refine ⟨fun s => ZI s tj tc ti ts [],hne,rfl,hr,fun s H => ?_⟩
 have hl := Mg (.agg (.str tj :: cJ)) (.agg (.str tc :: cC)) (.agg (.str ti :: cI)) (.agg (.str ts :: cS)) (.agg [.str [],.str [],.nils,.nils,.bool false]) s H
 rw [FY,PU]
 simp only [ha,Qab,hl,Qah]
 rcases U1 s with rfl | rfl | rfl | rfl | h
 ·simp only [NC]; simp (maxDischargeDepth := 9) only [Qah,Qda,Qhm,Qgl,Qcu,Qex,if_true,List.drop_zero,List.length_cons,List.length_nil,Nat.zero_add,Nat.reduceAdd,Za,Nat.le_refl]
 ·simp only [Mw]; simp (maxDischargeDepth := 9) only [Qah,Qda,Qhm,Qgl,Qcu,Qex,if_true,List.drop_zero,List.length_cons,List.length_nil,Nat.zero_add,Nat.reduceAdd,Za,Nat.le_refl]
 ·simp only [NG]; simp (maxDischargeDepth := 9) only [Qah,Qda,Qhm,Qgl,Qcu,Qex,if_true,List.drop_zero,List.length_cons,List.length_nil,Nat.zero_add,Nat.reduceAdd,Za,Nat.le_refl]
 ·simp only [Mm]; simp (maxDischargeDepth := 9) only [Qah,Qda,Qhm,Qgl,Qcu,Qex,if_true,List.drop_zero,List.length_cons,List.length_nil,Nat.zero_add,Nat.reduceAdd,Za,Nat.le_refl]
 ·simp only [Uu h]; simp (maxDischargeDepth := 9) only [Qah,Qda,Qhm,Qgl,Qcu,Qex,if_true,List.drop_zero,List.length_cons,List.length_nil,Nat.zero_add,Nat.reduceAdd,Za,Nat.le_refl]
theorem NN (s : List UInt8) (H : Qa) : E WM [.str s] H = some (.ret (.agg (Y0 s)),H) := by
 obtain ⟨tj,tc,ti,ts,ha,hne,hr⟩ := NB
 have hl := Mg (.agg (.str tj :: cJ)) (.agg (.str tc :: cC)) (.agg (.str ti :: cI)) (.agg (.str ts :: cS)) (.agg [.str [],.str [],.nils,.nils,.bool false]) s (.var [.str [],.nils,.nils,.bool false] :: H)
 simp only [List.length_cons] at hl
 have ov : Z8 H (.agg [.str [],.nils,.nils,.bool false]) = some (.ptr H.length 0 0,.var [.str [],.nils,.nils,.bool false] :: H) := RU (x := .agg [.str [],.nils,.nils,.bool false]) (by simp)
 have ha2 := ha (.var [.str [],.nils,.nils,.bool false] :: H)
 simp only [List.length_cons] at ha2
 unfold Y0
 rw [Fi,Pk]
 simp only [ov,ha2,Qab,hl,Qah,Qag]
 rcases U1 s with rfl | rfl | rfl | rfl | h
 ·simp only [NC]; simp (maxDischargeDepth := 9) only [Qah,Qag,Qda,Qdc,Qao,Qgr,Qgq,Qgs,Qhe,Qhf,Qdi,Qdu,Qdw,Qdh,Qdg,Qdf,Qhk,Qhi,Qcu,Qcn,Qcr,Qcm,Qcq,Qhl,Qex,Qge,Qgd,Qbf,Qbx,Qcf,Qch,Qbw,Qde,Qdd,if_true,List.drop_zero,List.drop_succ_cons,List.length_cons,List.length_nil,Nat.zero_add,Option.bind_some,Option.map_some,Bool.and_true,List.append_nil,Nat.reduceAdd,Z3,Yh,List.drop_nil,Za,Nat.le_refl,Nat.lt_add_one,Nat.zero_le,or_true,and_self,Nat.max_self,List.take_zero,List.take_succ_cons]
 ·simp only [Mw]; simp (maxDischargeDepth := 9) only [Qah,Qag,Qda,Qdc,Qao,Qgr,Qgq,Qgs,Qhe,Qhb,Qhf,Qdi,Qdu,Qdr,Qdw,Qdh,Qdg,Qdf,Qhk,Qhi,Qcu,Qcn,Qcr,Qcm,Qcq,Qhl,Qex,Qge,Qgd,Qbf,Qbx,Qcf,Qch,Qcd,Qbw,Qde,Qdd,if_true,List.drop_zero,List.drop_succ_cons,List.length_cons,List.length_nil,Nat.zero_add,Option.bind_some,Option.map_some,Bool.and_true,List.append_nil,Nat.reduceAdd,Z3,Yh,List.drop_nil,Za,Nat.le_refl,Nat.lt_add_one,Nat.zero_le,or_true,and_self,Nat.max_self,List.take_zero,List.take_succ_cons]
 ·simp only [NG]; simp (maxDischargeDepth := 9) only [Qah,Qag,Qda,Qdc,Qao,Qgr,Qgq,Qgs,Qhe,Qhf,Qdi,Qdu,Qdw,Qdh,Qdg,Qdf,Qhk,Qhi,Qcu,Qcn,Qcr,Qcm,Qcq,Qhl,Qex,Qge,Qgd,Qbf,Qbx,Qcf,Qch,Qbw,Qde,Qdd,if_true,List.drop_zero,List.drop_succ_cons,List.length_cons,List.length_nil,Nat.zero_add,Option.bind_some,Option.map_some,Bool.and_true,List.append_nil,Nat.reduceAdd,Z3,Yh,List.drop_nil,Za,Nat.le_refl,Nat.lt_add_one,Nat.zero_le,or_true,and_self,Nat.max_self,List.take_zero,List.take_succ_cons]
 ·simp only [Mm]; simp (maxDischargeDepth := 9) only [Qah,Qag,Qda,Qdc,Qao,Qgr,Qgq,Qgs,Qhe,Qhf,Qdi,Qdu,Qdw,Qdh,Qdg,Qdf,Qhk,Qhi,Qcu,Qcn,Qcr,Qcm,Qcq,Qhl,Qex,Qge,Qgd,Qbf,Qbx,Qcf,Qch,Qbw,Qde,Qdd,if_true,List.drop_zero,List.drop_succ_cons,List.length_cons,List.length_nil,Nat.zero_add,Option.bind_some,Option.map_some,Bool.and_true,List.append_nil,Nat.reduceAdd,Z3,Yh,List.drop_nil,Za,Nat.le_refl,Nat.lt_add_one,Nat.zero_le,or_true,and_self,Nat.max_self,List.take_zero,List.take_succ_cons]
 ·simp only [Uu h]; simp (maxDischargeDepth := 9) only [Qah,Qag,Qda,Qdc,Qao,Qgr,Qgq,Qgs,Qhe,Qhb,Qdi,Qdu,Qdr,Qdw,Qdh,Qdg,Qdf,Qhk,Qhi,Qcu,Qcn,Qcr,Qcm,Qcq,Qhl,Qex,Qge,Qgd,Qbf,Qbx,Qcf,Qcd,Qbw,Qde,Qdd,if_true,List.drop_zero,List.drop_succ_cons,List.length_cons,List.length_nil,Nat.zero_add,Option.bind_some,Option.map_some,Bool.and_true,List.append_nil,Nat.reduceAdd,Z3,Yh,List.drop_nil,Za,Nat.le_refl,Nat.lt_add_one,Nat.zero_le,or_true,and_self,Nat.max_self,List.take_zero,List.take_succ_cons]
theorem Re {l : List (List UInt8)} {i : Nat} (h : i < l.length) : Z4 1 (tV l) (.int .i64 (i : Int)) = some (.fptr [.str l[i]]) :=
 L6 (y := .str l[i]) (by simp [h]) rfl
theorem Gi {l : List (List UInt8)} (hl : l.length ≤ 1000) {H : Qa} : ∀ (m i : Nat),l.length - i = m → i ≤ l.length → Ui H.length (tV l) (tV l) (.int .i64 (i : Int)) H = some (.ret (.bool true),H) := by
 intro m
 induction m with
 | zero =>
  intro i hm hi
  have h' : ¬ (i : Int) < (l.length : Int) := by omega
  rw [Lp]
  simp (maxDischargeDepth := 9) only [Qah,Qbd,Qff,Qea,Qei,Qda,Qgf,decide_false,List.length_map,h']
 | succ m ih =>
  intro i hm hi
  have h : i < l.length := by omega
  have h' : (i : Int) < (l.length : Int) := by omega
  have w1 : IntKind.i64.wrap ((i : Int) + 1) = ((i + 1 : Nat) : Int) := by rw [wrap_i64 (by omega) (by omega)]; omega
  have i1 := Re h
  have k := ih (i + 1) (by omega) (by omega)
  rw [Lp]
  simp (maxDischargeDepth := 9) only [Qah,Qbe,Qbd,Qff,Qea,Qei,Qen,Qda,Qfk,Qhm,Qgf,decide_true,Bool.not_true,List.length_map,h',i1,w1,k]
theorem M2 {l : List (List UInt8)} (hl : l.length ≤ 1000) (H : Qa) : E V5 [tV l,tV l] H = some (.ret (.bool true),H) := by
 have k := Gi hl (H := H) l.length 0 rfl (Nat.zero_le _)
 simp only [Qam] at k
 rw [E4,PI]
 simp (maxDischargeDepth := 9) only [Qah,Qbd,Qff,Qek,Qda,Qgf,decide_true,Bool.not_true,List.length_map,k]
theorem PH {a : List UInt8} {l m : List (List UInt8)} {b : Bool} (hl : l.length ≤ 1000) (hm : m.length ≤ 1000) (H : Qa) : E WH [.agg [.str a,tV l,tV m,.bool b],.agg [.str a,tV l,tV m,.bool b]] H = some (.ret (.bool true),H) := by
 have k1 := fun G => M2 hl G
 have k2 := fun G => M2 hm G
 have ov : ∀ G,Z8 G (.agg [.str a,tV l,tV m,.bool b]) = some (.ptr G.length 0 0,.var [.str a,tV l,tV m,.bool b] :: G) := fun G => RU (x := .agg [.str a,tV l,tV m,.bool b]) (by simp)
 rw [Pv,Pn]
 generalize tV l = L at k1 ov
 generalize tV m = M at k2 ov
 cases b <;> simp (maxDischargeDepth := 9) only [Qah,Qag,Qab,Qcl,Qfu,Qew,Qem,Qec,Qda,Qdc,Qhm,Qgf,Qcu,Qcn,Qcm,decide_true,List.drop_zero,List.drop_succ_cons,List.length_cons,Nat.add_zero,Nat.zero_add,beq_self_eq_true,Z3,Za,Nat.le_refl,Nat.lt_add_one,ov,k1,k2]
theorem LL (s : List UInt8) : ∃ a l m b,Y0 s = [.str a,tV l,tV m,.bool b] ∧ l.length ≤ 1000 ∧ m.length ≤ 1000 ∧ (s = nJ ∨ s = nC ∨ s = nI ∨ s = nS → a ≠ []) := by
 unfold Y0
 rcases U1 s with rfl | rfl | rfl | rfl | h
 ·exact ⟨_,[[115,116,114,105,110,103],[110,117,109,98,101,114]],[[119,115]],_,rfl,by decide,by decide,fun _ => by decide⟩
 ·exact ⟨_,[[113,117,111,116,101,100],[98,97,114,101],[101,110,100]],[],_,rfl,by decide,by decide,fun _ => by decide⟩
 ·exact ⟨_,[[107,101,121],[118,97,108,117,101],[110,101,119,108,105,110,101]],[[98,108,97,110,107]],_,rfl,by decide,by decide,fun _ => by decide⟩
 ·exact ⟨_,[[110,117,109,98,101,114]],[[98,108,97,110,107]],_,rfl,by decide,by decide,fun _ => by decide⟩
 ·exact ⟨[],[],[],false,by rw [Uu h]; rfl,by decide,by decide,fun k => by
   rcases k with k | k | k | k
   ·exact absurd k h.1
   ·exact absurd k h.2.1
   ·exact absurd k h.2.2.1
   ·exact absurd k h.2.2.2⟩
abbrev Q4 : List (List UInt8) := [nC,nI,nJ,nS]
theorem MJ (H : Qa) : E Uy [] H = some (.ret (tV Q4),H) := by
 rw [FS,EJ]
 simp (maxDischargeDepth := 9) only [Qah,Qda,Qgo,F4]
 rfl
def B6 : Prop := ∀ H,E M9 [] H = some (.ret (tV Q4),H)
theorem FD {H : Qa} : ∀ (m i : Nat),4 - i = m → i ≤ 4 → V4 H.length (tV Q4) (.int .i64 (i : Int)) H = some (.ret (.bool true),H) := by
 obtain ⟨f,hf,hx,hr,hp⟩ := Mz
 intro m
 induction m with
 | zero =>
  intro i hm hi
  have h' : ¬ (i : Int) < 4 := by omega
  rw [LS]
  simp (maxDischargeDepth := 9) only [Qah,Qab,Qbd,Qfp,Qea,Qei,Qem,Qda,Qgf,decide_true,decide_false,h',hp,hx]
 | succ m ih =>
  intro i hm hi
  have h : i < Q4.length := by show i < 4; omega
  have h' : (i : Int) < 4 := by omega
  have w1 : IntKind.i64.wrap ((i : Int) + 1) = ((i + 1 : Nat) : Int) := by rw [wrap_i64 (by omega) (by omega)]; omega
  have i1 := Re h
  have k := ih (i + 1) (by omega) (by omega)
  have nm := MJ
  have ht : f Q4[i] ≠ [] ∧ (Q4[i] = nJ ∨ Q4[i] = nC ∨ Q4[i] = nI ∨ Q4[i] = nS) := by
   match i,h with
   | 0,_ => exact ⟨hf.2.1,.inr (.inl rfl)⟩
   | 1,_ => exact ⟨hf.2.2.1,.inr (.inr (.inl rfl))⟩
   | 2,_ => exact ⟨hf.1,.inl rfl⟩
   | 3,_ => exact ⟨hf.2.2.2,.inr (.inr (.inr rfl))⟩
  obtain ⟨a,l,mm,b,e1,_,_,e2⟩ := LL Q4[i]
  have ha := e2 ht.2
  have pc := fun G => NN Q4[i] G
  rw [e1] at pc
  have pt := fun G => hp Q4[i] G
  have hne := ht.1
  generalize f Q4[i] = T at pt hne
  generalize Q4[i] = z at i1 pc pt
  generalize tV Q4 = L at i1 k nm ⊢
  rw [LS]
  simp (maxDischargeDepth := 9) only [Qah,Qab,Qbe,Qbd,Qcl,Qhg,Qgp,Qfp,Qft,Qea,Qei,Qem,Qen,Qda,Qfk,Qhm,Qgf,Qex,decide_true,decide_false,Bool.not_true,if_true,List.drop_zero,List.length_cons,List.length_nil,Nat.zero_add,Nat.reduceAdd,Za,Nat.le_refl,h',i1,nm,pt,hne,pc,ha,w1,k]
theorem PS (hN : B6) (H : Qa) : E RV [] H = some (.ret (.bool true),H) := by
 have k := FD (H := H) 4 0 rfl (Nat.zero_le _)
 simp only [Qam] at k
 have nm := fun G => hN G
 have ll : Yb (tV Q4) = some (.int .i64 4) := by rw [Qff]; rfl
 rw [E1,P2]
 generalize tV Q4 = L at k nm ll
 simp (maxDischargeDepth := 9) only [Qah,Qab,Qbd,Qek,Qda,Qgf,decide_true,Bool.not_true,nm,ll,k]
theorem GY (hN : B6) (s : List UInt8) {b : Int} (hb : 0 ≤ b ∧ b ≤ 255) : E Rk [.str s,.int .u8 b] [] = some (.ret (.bool true),[]) := by
 obtain ⟨f,hf,hx,hr,hp⟩ := Mz
 have aw := fun G => PS hN G
 have nm := MJ
 have w0 : IntKind.i64.wrap b = b := wrap_i64 (by omega) (by omega)
 have hb4 : 0 ≤ b % 4 ∧ b % 4 < 4 := ⟨Int.emod_nonneg _ (by omega),Int.emod_lt_of_pos _ (by omega)⟩
 have rm : Qr .rem 6 (.int .i64 b) (.int .i64 4) = some (.int .i64 (b % 4)) := by rw [GK _ _ _ _ (by decide),Int.tmod_eq_emod_of_nonneg hb.1]
 obtain ⟨i,hi⟩ : ∃ i : Nat,b % 4 = i := ⟨(b % 4).toNat,by omega⟩
 rw [hi] at rm
 have hlt : i < Q4.length := by show i < 4; omega
 have i1 := Re hlt
 generalize Q4[i] = z at i1
 have p1 := fun s G => hp s G
 have r1 := fun s G => hr s G
 have p2 := fun s G => NN s G
 have r2 := fun s G => Gb s G
 have sm : ∀ s G,E WH [.agg (Y0 s),.agg (Y0 s)] G = some (.ret (.bool true),G) := fun s G => by
  obtain ⟨a,l,m,b,e1,e2,e3,_⟩ := LL s
  rw [e1]
  exact PH e2 e3 G
 generalize tV Q4 = L at i1 nm
 rw [Fl,G9]
 simp (maxDischargeDepth := 9) only [Qah,Qab,Qcl,Qfp,Qfu,Qfb,Qem,Qfk,Qhm,Qgf,decide_true,List.length_nil,nm,w0,rm,i1,aw,p1,r1,p2,r2,sm]
 rfl
theorem Ps : B6 := fun H => by
 rw [show E = EV Try.prog Vn D from rfl,Gm (g := iRd Wx) rfl]
 rfl
theorem Gp (s : List UInt8) (hs : s.length ≤ 9223372036854775807) (b : Int) (hb : 0 ≤ b ∧ b ≤ 255) : E Rk [.str s,.int .u8 b] [] = some (.ret (.bool true),[]) := GY Ps s hb
end Go.Proofs.Ythpghekebjadcaa
end
