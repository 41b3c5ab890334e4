/- Wd: a part of the proof that each law of this seat answers true at every input. No condition. -/
import Derived.Test.YthpghekebjadcaaRows
import Derived.Test.YthpghekebjadcaaHint
import Derived.Test.YthpghekebjadcaaEvG
import Derived.Test.YthpghekebjadcaaEvGb
import Derived.Test.YthpghekebjadcaaWl
set_option linter.unusedVariables false
set_option linter.unusedSimpArgs false
set_option maxRecDepth 2000
section
namespace Go.Proofs.Ythpghekebjadcaa
open Go Go.Ev Go.RowKit
def noT : Qt := fun _ _ => False
abbrev nmL : List (List UInt8) := [[99,115,118],[105,110,105],[106,115,111,110],[115,117,109,115]]
theorem EB {S : Ctx} (hS : Sim noT S) {W' : World} (hg : Grew S.w W') {v : Value} (h : W'.ownsRow S.w.heap.size 9 1 v 4 (nmL.map Go.Proofs.encStr)) :
    Rel (S.at W') (.vs (nmL.map V.str)) v := by
  obtain ⟨hlen,h⟩ := h
  rcases h with ⟨rfl,h0⟩ | ⟨g,cap,cur,rfl,hbg,hcell,hcap,_,hsz,hcs⟩
  · exact absurd h0 (by decide)
  · have hlt : g < W'.heap.size := (Array.getElem?_eq_some_iff.1 hcell).1
    have Qd : ∀ k,k < 4 → W'.cell? ⟨g,0 + k,none⟩ = (nmL.map Go.Proofs.encStr)[k]? := fun k hk => by
      simp only [World.cell?,hcell,Nat.zero_add]
      rw [← hcs,List.getElem?_take_of_lt (by omega)]
      simp
    have hat : ∀ (i : Nat) (x : V) (j : Nat) (y : V),(nmL.map V.str)[i]? = some x → x.cells[j]? = some y → ∃ s : List UInt8,y = .str s ∧ W'.cell? ⟨g,0 + (i * 1 + j),none⟩ = some (Go.Proofs.encStr s) := fun i x j y hi hj => by
      rw [List.getElem?_map] at hi
      obtain ⟨z,hz,rfl⟩ := Option.map_eq_some_iff.1 hi
      have hil := (List.getElem?_eq_some_iff.1 hz).1
      match j with
      | 0 =>
        simp [V.cells] at hj
        subst hj
        refine ⟨z,rfl,?_⟩
        rw [show i * 1 + 0 = i by omega,Qd i hil,List.getElem?_map,hz]
        rfl
      | j + 1 => simp [V.cells] at hj
    refine .vs _ _ _ _ g 0 1 (fun k => (W'.cell? ⟨g,0 + k,none⟩).getD .nilFunc) (by simp) hcap (by decide +kernel) (fun _ => ⟨rfl,⟨?_,?_⟩,hlt⟩) (fun i x hi => ?_) (fun i x j y hi hj => ?_) fun i x j y hi hj => ?_
    · rintro ⟨i,hi,e⟩
      have := hS.lt (show S.live i from hi)
      have e : S.ρ i = g := e
      omega
    · intro hz
      have := hS.zlt g hz
      omega
    · rw [List.getElem?_map] at hi
      obtain ⟨z,hz,rfl⟩ := Option.map_eq_some_iff.1 hi
      rfl
    · obtain ⟨n,_,e⟩ := hat i x j y hi hj
      show W'.cell? _ = _
      rw [e]; rfl
    · obtain ⟨s,rfl,e⟩ := hat i x j y hi hj
      simp only [e,Option.getD_some]
      exact .str ⟨s.toArray⟩
theorem P4 : Mod noT Try.prog 17 (iRd Wx) := by
  intro args H r H' hm S uargs hH hS hA
  refine ⟨enters Try.func17 (by kernel_rfl) (by kernel_rfl) _ _,?_⟩
  unfold iRd at hm
  obtain ⟨v,h1,h2⟩ := Option.map_eq_some_iff.1 hm
  injection h2 with h2 h3
  subst h2; subst h3; subst hH
  unfold Wx at h1
  split at h1
  · injection h1 with h1
    subst h1
    obtain rfl : uargs = #[] := Array.eq_empty_of_size_eq_zero hA.1
    refine (Ei S.w).mono fun e W' he => ?_
    obtain ⟨v,rfl,how,hb⟩ := he
    have hg := E3 hb
    exact ⟨S.at W',⟨rfl,rfl,rfl,Je hS hg,KT hS hg,Bd.refl _ _⟩,EB hS hg how⟩
  · cases h1
theorem mixed : Try.prog.follows .mixedOrders = true := by kernel_rfl
theorem P8 : (Try.prog.funcs.all fun fn => !fn.body.isSome || !(fn.name == "runtime.NumGoroutine")) = true := by kernel_rfl
theorem Nh : Kr Try.prog := by
  intro f fn hf hb
  have h := P8
  rw [Array.all_eq_true_iff_forall_mem] at h
  have := h fn (Array.mem_of_getElem? hf)
  simpa [hb] using this
theorem GR : ∀ f g,Vn.intr f = some g → Mod noT Try.prog f g := by
  intro f g h
  have h : Ux [(17,iRd Wx)] f = some g := h
  unfold Ux at h
  split at h
  · rename_i he
    injection h with h
    subst h
    have := Nat.eq_of_beq_eq_true he
    subst this
    exact P4
  · cases h
theorem PR : ∀ f g,Vn.orc f = some g → ∀ call,QJ noT Try.prog call → Mod noT Try.prog f (g call) := by
  intro f g h
  cases h
theorem GB : YX noT Try.prog D := L8 mixed Nh
theorem G5 : QJ noT Try.prog E := Ee GB mixed Nh GR PR
theorem laidB : laidOutB Try.prog = true := by kernel_rfl
theorem ownB : ownKnob Try.prog.godebug = none := by kernel_rfl
theorem Ea (W : World) : Laid noT W := fun c us h => False.elim h
end Go.Proofs.Ythpghekebjadcaa
end
