/- Wd: a part of the proof that each law of this seat answers true at every input. No condition. -/
import Derived.Test.YthpghekebjadcaaRows
import Derived.Test.YthpghekebjadcaaHint
import Derived.Test.YthpghekebjadcaaEvG
import Derived.Test.YthpghekebjadcaaEvGb
import Derived.Test.YthpghekebjadcaaWl
set_option linter.unusedVariables false
set_option linter.unusedSimpArgs false
set_option maxRecDepth 2000
section
namespace Go.Proofs.Ythpghekebjadcaa
open Go Go.Ev Go.RowKit
def noT : ZT := fun _ _ => False
abbrev nmL : List (List UInt8) := [[99,115,118],[105,110,105],[106,115,111,110],[115,117,109,115]]
theorem Qh5 {S : Ctx} (hS : Sim noT S) {W' : World} (hg : Grew S.w W') {v : Value} (h : W'.ownsRow S.w.heap.size 9 1 v 4 (nmL.map Go.Proofs.encStr)) :
    Rel (S.at W') (.vs (nmL.map V.str)) v := by
  obtain ⟨hlen,h⟩ := h
  rcases h with ⟨rfl,h0⟩ | ⟨g,cap,cur,rfl,hbg,hcell,hcap,_,hsz,hcs⟩
  · exact absurd h0 (by decide)
  · have hlt : g < W'.heap.size := (Array.getElem?_eq_some_iff.1 hcell).1
    have Q0 : ∀ k,k < 4 → W'.cell? ⟨g,0 + k,none⟩ = (nmL.map Go.Proofs.encStr)[k]? := fun k hk => by
      simp only [World.cell?,hcell,Nat.zero_add]
      rw [← hcs,List.getElem?_take_of_lt (by omega)]
      simp
    have hat : ∀ (i : Nat) (x : V) (j : Nat) (y : V),(nmL.map V.str)[i]? = some x → x.cells[j]? = some y → ∃ s : List UInt8,y = .str s ∧ W'.cell? ⟨g,0 + (i * 1 + j),none⟩ = some (Go.Proofs.encStr s) := fun i x j y hi hj => by
      rw [List.getElem?_map] at hi
      obtain ⟨z,hz,rfl⟩ := Option.map_eq_some_iff.1 hi
      have hil := (List.getElem?_eq_some_iff.1 hz).1
      match j with
      | 0 =>
        simp [V.cells] at hj
        subst hj
        refine ⟨z,rfl,?_⟩
        rw [show i * 1 + 0 = i by omega,Q0 i hil,List.getElem?_map,hz]
        rfl
      | j + 1 => simp [V.cells] at hj
    refine .vs _ _ _ _ g 0 1 (fun k => (W'.cell? ⟨g,0 + k,none⟩).getD .nilFunc) (by simp) hcap (by decide +kernel) (fun _ => ⟨rfl,⟨?_,?_⟩,hlt⟩) (fun i x hi => ?_) (fun i x j y hi hj => ?_) fun i x j y hi hj => ?_
    · rintro ⟨i,hi,e⟩
      have := hS.lt (show S.live i from hi)
      have e : S.ρ i = g := e
      omega
    · intro hz
      have := hS.zlt g hz
      omega
    · rw [List.getElem?_map] at hi
      obtain ⟨z,hz,rfl⟩ := Option.map_eq_some_iff.1 hi
      rfl
    · obtain ⟨n,_,e⟩ := hat i x j y hi hj
      show W'.cell? _ = _
      rw [e]; rfl
    · obtain ⟨s,rfl,e⟩ := hat i x j y hi hj
      simp only [e,Option.getD_some]
      exact .str ⟨s.toArray⟩
theorem Qiq : Mod noT Try.prog 17 (iRd LA) := by
  intro args H r H' hm S uargs hH hS hA
  refine ⟨enters Try.func17 (by kernel_rfl) (by kernel_rfl) _ _,?_⟩
  unfold iRd at hm
  obtain ⟨v,h1,h2⟩ := Option.map_eq_some_iff.1 hm
  injection h2 with h2 h3
  subst h2; subst h3; subst hH
  unfold LA at h1
  split at h1
  · injection h1 with h1
    subst h1
    obtain rfl : uargs = #[] := Array.eq_empty_of_size_eq_zero hA.1
    refine (Qpj S.w).mono fun e W' he => ?_
    obtain ⟨v,rfl,how,hb⟩ := he
    have hg := Qfn hb
    exact ⟨S.at W',⟨rfl,rfl,rfl,W9 hS hg,Nb hS hg,Bd.refl _ _⟩,Qh5 hS hg how⟩
  · cases h1
theorem mixed : Try.prog.follows .mixedOrders = true := by kernel_rfl
theorem QsW : (Try.prog.funcs.all fun fn => !fn.body.isSome || !(fn.name == "runtime.NumGoroutine")) = true := by kernel_rfl
theorem Qda : UO Try.prog := by
  intro f fn hf hb
  have h := QsW
  rw [Array.all_eq_true_iff_forall_mem] at h
  have := h fn (Array.mem_of_getElem? hf)
  simpa [hb] using this
theorem QjG : ∀ f g,PN.intr f = some g → Mod noT Try.prog f g := by
  intro f g h
  have h : Fz [(17,iRd LA)] f = some g := h
  unfold Fz at h
  split at h
  · rename_i he
    injection h with h
    subst h
    have := Nat.eq_of_beq_eq_true he
    subst this
    exact Qiq
  · cases h
theorem Qlq : ∀ f g,PN.orc f = some g → ∀ call,Yb noT Try.prog call → Mod noT Try.prog f (g call) := by
  intro f g h
  cases h
theorem Qrh : KU noT Try.prog D := Qm1 mixed Qda
theorem QoZ : Yb noT Try.prog E := Qqh Qrh mixed Qda QjG Qlq
theorem laidB : laidOutB Try.prog = true := by kernel_rfl
theorem ownB : ownKnob Try.prog.godebug = none := by kernel_rfl
theorem QnL (W : World) : Laid noT W := fun c us h => False.elim h
end Go.Proofs.Ythpghekebjadcaa
end
