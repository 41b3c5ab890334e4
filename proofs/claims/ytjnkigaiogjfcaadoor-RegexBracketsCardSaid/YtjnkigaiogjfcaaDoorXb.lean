/- Xb: a part of the proof that each law of this seat answers true at every input. No condition. -/
import Derived.Test.YtjnkigaiogjfcaaDoorXa
set_option linter.unusedVariables false
set_option linter.unusedSimpArgs false
set_option maxRecDepth 20000
section
/- What these make of what is right is right. -/
namespace Go.X7
open Go Go.Ev Go.Srt
set_option linter.unusedVariables false
mutual
theorem sameX_eq : ∀ {x y : X}, sameX x y = true → x = y
 | .mk k s ks, .mk k' s' ks', h => by
  simp only [sameX, Bool.and_eq_true, decide_eq_true_eq] at h
  obtain ⟨⟨rfl, rfl⟩, h3⟩ := h
  rw [sameXs_eq h3]
theorem sameXs_eq : ∀ {l m : List X}, sameXs l m = true → l = m
 | [], [], _ => rfl
 | [], _ :: _, h => by simp [sameXs] at h
 | _ :: _, [], h => by simp [sameXs] at h
 | x :: l, y :: m, h => by
  simp only [sameXs, Bool.and_eq_true] at h
  rw [sameX_eq h.1, sameXs_eq h.2]
end
abbrev Rt (x : X) : Prop := rightX x = true
theorem rightXs_iff {l : List X} : rightXs l = true ↔ ∀ x ∈ l, Rt x := by rw [rightXs_all, List.all_eq_true]
theorem rt_iff (x : X) : Rt x ↔ (∀ y ∈ x.ks, Rt y) ∧ ownR x = true := by
 cases x with
 | mk k s ks =>
  show (rightXs ks && ownR (.mk k s ks)) = true ↔ _
  rw [Bool.and_eq_true, rightXs_iff]
  exact Iff.rfl
theorem flatK_none {k : Int} {l : List X} (h : ∀ x ∈ l, x.k ≠ k) : flatK k l = l := by
 induction l with
 | nil => rfl
 | cons x l ih =>
  have e := ih fun y hy => h y (List.mem_cons_of_mem _ hy)
  unfold flatK at e ⊢
  rw [List.flatMap_cons, if_neg (h x List.mem_cons_self), e]
  rfl
theorem flatK_app (k : Int) (l m : List X) : flatK k (l ++ m) = flatK k l ++ flatK k m := by
 unfold flatK
 rw [List.flatMap_append]
theorem flatK_lt {k : Int} {l : List X} {x : X} (hx : x ∈ l) (hk : x.k = k) : sizes (flatK k l) < sizes l := by
 obtain ⟨a, b, rfl⟩ := List.append_of_mem hx
 have e1 : flatK k (a ++ x :: b) = flatK k a ++ (x.ks ++ flatK k b) := by
  rw [flatK_app]
  congr 1
  unfold flatK
  rw [List.flatMap_cons, if_pos hk]
 have h1 := flatK_sizes (k := k) a
 have h2 := flatK_sizes (k := k) b
 have h3 := size_eq x
 rw [e1]
 simp only [sizes_append, sizes]
 omega
theorem mem_flatK {k : Int} {l : List X} {z : X} (h : z ∈ flatK k l) : (z ∈ l ∧ z.k ≠ k) ∨ ∃ y ∈ l, y.k = k ∧ z ∈ y.ks := by
 obtain ⟨y, hy, hz⟩ := List.mem_flatMap.1 h
 split at hz
 ·rename_i e
  exact .inr ⟨y, hy, e, hz⟩
 ·rename_i e
  obtain rfl := List.mem_singleton.1 hz
  exact .inl ⟨hy, e⟩
theorem mem_sizes {x : X} {ks : List X} {k : Int} {s : S4} (h : x ∈ flatK k ks) : x ≠ .mk k s ks := fun e => by
 have h1 := size_mem h
 have h2 := flatK_sizes (k := k) ks
 rw [e] at h1
 simp only [X.size] at h1
 omega
/-! One behind the other. -/
def bodyC (l : List X) : List X := (flatK 3 l).filter fun x => !decide (x.k = 1)
theorem catX_eq (l : List X) : catX l = if (flatK 3 l).any (fun x => decide (x.k = 0)) then .mk 0 S4.zero [] else ofL (bodyC l) 3 1 := rfl
theorem ofL_many {l : List X} (h : 1 < l.length) (k n : Int) : ofL l k n = .mk k S4.zero l := by
 match l, h with
 | x :: y :: l, _ => rfl
theorem rt_cat {x : X} (h : Rt x) (h3 : x.k = 3) : ∀ y ∈ x.ks, Rt y ∧ y.k ≠ 3 ∧ y.k ≠ 0 ∧ y.k ≠ 1 := by
 obtain ⟨k, s, ks⟩ := x
 obtain rfl : k = 3 := h3
 obtain ⟨h1, h2⟩ := (rt_iff _).1 h
 rw [ownR_mk] at h2
 split at h2
 ·cases h2
 ·rename_i hs
  have hs : s = S4.zero := Classical.byContradiction fun e => hs ⟨by decide, e⟩
  subst hs
  rw [if_neg (by decide), if_neg (by decide), if_neg (by decide), if_pos rfl, Bool.and_eq_true, decide_eq_true_eq] at h2
  obtain ⟨hl, hc⟩ := h2
  have hc := sameX_eq hc
  rw [catX_eq] at hc
  split at hc
  ·injection hc with e; exact absurd e (by decide)
  ·rename_i hany
   have hF : bodyC ks = ks := by
    have key : ∀ F : List X, F = bodyC ks → ofL F 3 1 = .mk 3 S4.zero ks → F = ks := fun F hF e => by
     match F, hF, e with
     | [], _, e => injection e with e
     | [z], hF, e =>
      have hz : z ∈ bodyC ks := by rw [← hF]; simp
      exact absurd e (mem_sizes (List.mem_filter.1 hz).1)
     | z :: w :: F, _, e => injection e
    exact key _ rfl hc
   have hno : ∀ y ∈ ks, y.k ≠ 3 := fun y hy hk => by
    have a1 := flatK_lt hy hk
    have a2 := sizes_filter (fun x => !decide (x.k = 1)) (flatK 3 ks)
    have a3 : sizes ((flatK 3 ks).filter fun x => !decide (x.k = 1)) = sizes ks := by rw [show ((flatK 3 ks).filter fun x => !decide (x.k = 1)) = ks from hF]
    omega
   intro y hy
   refine ⟨h1 y hy, hno y hy, fun h0 => hany ?_, fun h0 => ?_⟩
   ·rw [flatK_none hno]
    exact List.any_eq_true.2 ⟨y, hy, by simp [h0]⟩
   ·have hy' : y ∈ bodyC ks := by rw [hF]; exact hy
    have := (List.mem_filter.1 hy').2
    simp [h0] at this
theorem flat3_rt {l : List X} (h : ∀ x ∈ l, Rt x) {z : X} (hz : z ∈ flatK 3 l) : Rt z ∧ z.k ≠ 3 := by
 rcases mem_flatK hz with ⟨h1, h2⟩ | ⟨y, hy, hk, hz⟩
 ·exact ⟨h z h1, h2⟩
 ·have := rt_cat (h y hy) hk z hz
  exact ⟨this.1, this.2.1⟩
theorem rt_0 : Rt (.mk 0 S4.zero []) := by
 rw [rt_iff]
 exact ⟨fun y hy => by simp [X.ks] at hy, by rw [ownR_mk, if_neg (by simp), if_pos (by simp)]; rfl⟩
theorem rt_1 : Rt (.mk 1 S4.zero []) := by
 rw [rt_iff]
 exact ⟨fun y hy => by simp [X.ks] at hy, by rw [ownR_mk, if_neg (by simp), if_pos (by simp)]; rfl⟩
theorem rt_2 {s : S4} (hs : s ≠ S4.zero) : Rt (.mk 2 s []) := by
 rw [rt_iff]
 refine ⟨fun y hy => by simp [X.ks] at hy, ?_⟩
 rw [ownR_mk, if_neg (by simp), if_neg (by decide), if_pos rfl]
 simp [hs]
theorem right_cat {l : List X} (h : ∀ x ∈ l, Rt x) : Rt (catX l) := by
 rw [catX_eq]
 split
 ·exact rt_0
 ·rename_i hany
  have hm : ∀ z ∈ bodyC l, Rt z ∧ z.k ≠ 3 ∧ z.k ≠ 0 ∧ z.k ≠ 1 := fun z hz => by
   obtain ⟨a, b⟩ := List.mem_filter.1 hz
   obtain ⟨c, d⟩ := flat3_rt h a
   refine ⟨c, d, fun e => hany (List.any_eq_true.2 ⟨z, a, by simp [e]⟩), by simpa using b⟩
  generalize bodyC l = F at hm
  match F, hm with
  | [], _ => exact rt_1
  | [z], hm => exact (hm z (by simp)).1
  | z :: w :: F, hm =>
   show Rt (.mk 3 S4.zero (z :: w :: F))
   rw [rt_iff]
   refine ⟨fun y hy => (hm y hy).1, ?_⟩
   rw [ownR_mk, if_neg (by simp), if_neg (by decide), if_neg (by decide), if_neg (by decide), if_pos rfl]
   have e : catX (z :: w :: F) = .mk 3 S4.zero (z :: w :: F) := by
    rw [catX_eq, bodyC, flatK_none fun y hy => (hm y hy).2.1, if_neg, List.filter_eq_self.2 fun y hy => by simp [(hm y hy).2.2.2]]
    ·rfl
    ·intro hc
     obtain ⟨y, hy, h0⟩ := List.any_eq_true.1 hc
     exact (hm y hy).2.2.1 (of_decide_eq_true h0)
   rw [e, sameX_self]
   simp
/-! One of some. -/
def bodyE (l : List X) : List X := (othX (flatK 4 l)).foldl (fun a r => putX r a) (baseX (joinB (flatK 4 l)))
theorem eitherX_eq (l : List X) : eitherX l = ofL (bodyE l) 4 0 := rfl
theorem bodyE_ss (l : List X) : SS (bodyE l) := (fold_ok _ (base_ss _)).1
theorem bodyE_ft (l : List X) (t : K) : Ft t (bodyE l) = (Ft t (baseX (joinB (flatK 4 l)) ++ othX (flatK 4 l))).take 1 := (fold_ok _ (base_ss _)).2 t
theorem base_mem {s : S4} {z : X} (h : z ∈ baseX s) : z = .mk 2 s [] ∧ s ≠ S4.zero := by
 unfold baseX at h
 split at h
 ·simp at h
 ·rename_i e
  exact ⟨List.mem_singleton.1 h, e⟩
theorem oth_k {m : List X} {z : X} (h : z ∈ othX m) : z ∈ m ∧ z.k ≠ 0 ∧ z.k ≠ 2 := by
 obtain ⟨a, b⟩ := List.mem_filter.1 h
 simp only [Bool.and_eq_true, Bool.not_eq_true', decide_eq_false_iff_not] at b
 exact ⟨a, b.1, b.2⟩
theorem bodyE_mem {l : List X} {z : X} (h : z ∈ bodyE l) : (z = .mk 2 (joinB (flatK 4 l)) [] ∧ joinB (flatK 4 l) ≠ S4.zero) ∨ (z ∈ flatK 4 l ∧ z.k ≠ 0 ∧ z.k ≠ 2) := by
 rcases fold_mem _ _ z h with h | h
 ·exact .inl (base_mem h)
 ·exact .inr (oth_k h)
theorem sizes_filter_lt {p : X → Bool} {l : List X} {x : X} (hx : x ∈ l) (hp : p x = false) : sizes (l.filter p) < sizes l := by
 obtain ⟨a, b, rfl⟩ := List.append_of_mem hx
 rw [List.filter_append, List.filter_cons, if_neg (by simp [hp])]
 have h1 := sizes_filter p a
 have h2 := sizes_filter p b
 have h3 := size_pos x
 simp only [sizes_append, sizes]
 omega
theorem bodyE_sizes (l : List X) : sizes (bodyE l) ≤ sizes (flatK 4 l) := by
 have h2 := fold_sizes (othX (flatK 4 l)) (baseX (joinB (flatK 4 l)))
 have h3 := sizes_filter (fun x => !decide (x.k = 0) && !decide (x.k = 2)) (flatK 4 l)
 have h4 : sizes (baseX (joinB (flatK 4 l))) + sizes (othX (flatK 4 l)) ≤ sizes (flatK 4 l) := by
  by_cases hz : joinB (flatK 4 l) = S4.zero
  ·rw [baseX, if_pos hz]
   simp only [sizes]
   unfold othX
   omega
  ·rw [baseX, if_neg hz]
   have : ∃ x ∈ flatK 4 l, x.k = 2 := Classical.byContradiction fun hc => hz (joinF_none _ fun x hx h2 => hc ⟨x, hx, h2⟩)
   obtain ⟨x, hx, hk⟩ := this
   have := sizes_filter_lt (p := fun x => !decide (x.k = 0) && !decide (x.k = 2)) hx (by simp [hk])
   simp only [sizes, X.size]
   unfold othX
   omega
 unfold bodyE
 omega
theorem rt_either {x : X} (h : Rt x) (h4 : x.k = 4) : ∀ y ∈ x.ks, Rt y ∧ y.k ≠ 4 := by
 obtain ⟨k, s, ks⟩ := x
 obtain rfl : k = 4 := h4
 obtain ⟨h1, h2⟩ := (rt_iff _).1 h
 rw [ownR_mk] at h2
 split at h2
 ·cases h2
 ·rename_i hs
  have hs : s = S4.zero := Classical.byContradiction fun e => hs ⟨by decide, e⟩
  subst hs
  rw [if_neg (by decide), if_neg (by decide), if_neg (by decide), if_neg (by decide), if_pos rfl, Bool.and_eq_true, decide_eq_true_eq] at h2
  obtain ⟨hl, hc⟩ := h2
  have hc := sameX_eq hc
  rw [eitherX_eq] at hc
  have hF : bodyE ks = ks := by
   have key : ∀ F : List X, F = bodyE ks → ofL F 4 0 = .mk 4 S4.zero ks → F = ks := fun F hF e => by
    match F, hF, e with
    | [], _, e => injection e with e
    | [z], hF, e =>
     have e : z = .mk 4 S4.zero ks := e
     have hz : z ∈ bodyE ks := by rw [← hF]; simp
     rcases bodyE_mem hz with ⟨a, _⟩ | ⟨a, _⟩
     ·rw [e] at a
      injection a with a
      exact absurd a (by decide)
     ·exact absurd e (mem_sizes a)
    | z :: w :: F, _, e => injection e
   exact key _ rfl hc
  intro y hy
  refine ⟨h1 y hy, fun hk => ?_⟩
  have a1 : sizes (flatK 4 ks) < sizes ks := flatK_lt hy hk
  have a2 := bodyE_sizes ks
  rw [hF] at a2
  omega
theorem flat4_rt {l : List X} (h : ∀ x ∈ l, Rt x) {z : X} (hz : z ∈ flatK 4 l) : Rt z ∧ z.k ≠ 4 := by
 rcases mem_flatK hz with ⟨h1, h2⟩ | ⟨y, hy, hk, hz⟩
 ·exact ⟨h z h1, h2⟩
 ·exact rt_either (h y hy) hk z hz
theorem S4.join_self (s : S4) : s.join s = s := by
 cases s
 simp [S4.join]
theorem S4.zero_join (s : S4) : S4.zero.join s = s := by
 cases s
 simp [S4.join, S4.zero]
theorem joinF_one {s : S4} : ∀ {l : List X} {a : S4}, (∀ x ∈ l, x.k = 2 → x.s = s) → (a = s ∨ (a = S4.zero ∧ ∃ x ∈ l, x.k = 2)) → joinF a l = s
 | [], a, _, h => by
  rcases h with rfl | ⟨_, x, hx, _⟩
  ·rfl
  ·simp at hx
 | x :: l, a, hs, h => by
  show joinF (if x.k = 2 then a.join x.s else a) l = s
  refine joinF_one (fun y hy => hs y (List.mem_cons_of_mem _ hy)) ?_
  by_cases hk : x.k = 2
  ·rw [if_pos hk, hs x List.mem_cons_self hk]
   rcases h with rfl | ⟨rfl, _⟩
   ·exact .inl (S4.join_self _)
   ·exact .inl (S4.zero_join _)
  ·rw [if_neg hk]
   rcases h with h | ⟨h, y, hy, h2⟩
   ·exact .inl h
   ·rcases List.mem_cons.1 hy with rfl | hy
    ·exact absurd h2 hk
    ·exact .inr ⟨h, y, hy, h2⟩
theorem ft_mem {t : K} {l : List X} {z : X} : z ∈ Ft t l ↔ z ∈ l ∧ txt z = t := by simp
theorem base_in (l : List X) (h : joinB (flatK 4 l) ≠ S4.zero) : .mk 2 (joinB (flatK 4 l)) [] ∈ bodyE l := by
 have e := bodyE_ft l (txt (.mk 2 (joinB (flatK 4 l)) []))
 have hb : baseX (joinB (flatK 4 l)) = [.mk 2 (joinB (flatK 4 l)) []] := by rw [baseX, if_neg h]
 rw [hb, List.cons_append, List.nil_append, ft_cons, ft_one, if_pos rfl, List.cons_append, List.take_succ_cons] at e
 have : X.mk 2 (joinB (flatK 4 l)) [] ∈ Ft (txt (.mk 2 (joinB (flatK 4 l)) [])) (bodyE l) := by rw [e]; simp
 exact (ft_mem.1 this).1
/-- Its bytes are the same. -/
theorem bodyE_join (l : List X) : joinB (bodyE l) = joinB (flatK 4 l) := by
 have hs : ∀ x ∈ bodyE l, x.k = 2 → x.s = joinB (flatK 4 l) := fun x hx hk => by
  rcases bodyE_mem hx with ⟨rfl, _⟩ | ⟨_, _, h⟩
  ·rfl
  ·exact absurd hk h
 by_cases hz : joinB (flatK 4 l) = S4.zero
 ·rw [hz]
  refine joinF_none _ fun x hx hk => ?_
  rcases bodyE_mem hx with ⟨_, h⟩ | ⟨_, _, h⟩
  ·exact h hz
  ·exact h hk
 ·exact joinF_one hs (.inr ⟨rfl, _, base_in l hz, rfl⟩)
theorem bodyE_flat {l : List X} (h : ∀ z ∈ flatK 4 l, z.k ≠ 4) : flatK 4 (bodyE l) = bodyE l := flatK_none fun z hz => by
 rcases bodyE_mem hz with ⟨rfl, _⟩ | ⟨a, _⟩
 ·show (2 : Int) ≠ 4
  decide
 ·exact h z a
theorem bodyE_idem {l : List X} (h : ∀ z ∈ flatK 4 l, z.k ≠ 4) : bodyE (bodyE l) = bodyE l := by
 refine SS.uniq (bodyE_ss _) (bodyE_ss _) fun t => ?_
 rw [bodyE_ft, bodyE_flat h, bodyE_join]
 have hlen := SS.ft (bodyE_ss l) t
 have hb : ∀ z, z ∈ baseX (joinB (flatK 4 l)) → z ∈ bodyE l := fun z hz => by
  obtain ⟨rfl, h2⟩ := base_mem hz
  exact base_in l h2
 have hsub : ∀ z, z ∈ Ft t (baseX (joinB (flatK 4 l)) ++ othX (bodyE l)) ↔ z ∈ Ft t (bodyE l) := fun z => by
  rw [ft_mem, ft_mem, List.mem_append]
  constructor
  ·rintro ⟨h1 | h1, h2⟩
   ·exact ⟨hb z h1, h2⟩
   ·exact ⟨(oth_k h1).1, h2⟩
  ·rintro ⟨h1, h2⟩
   refine ⟨?_, h2⟩
   rcases bodyE_mem h1 with ⟨rfl, h3⟩ | ⟨_, h3, h4⟩
   ·left
    rw [baseX, if_neg h3]; simp
   ·right
    exact List.mem_filter.2 ⟨h1, by simp [h3, h4]⟩
 generalize hA : Ft t (baseX (joinB (flatK 4 l)) ++ othX (bodyE l)) = A at hsub
 generalize hB : Ft t (bodyE l) = B at hsub hlen
 match B, hlen with
 | [], _ =>
  have : A = [] := List.eq_nil_iff_forall_not_mem.2 fun z hz => by simpa using (hsub z).1 hz
  rw [this]; rfl
 | [b], _ =>
  match A with
  | [] => have := (hsub b).2 (by simp); simp at this
  | a :: A =>
   have := (hsub a).1 (by simp)
   simp at this
   rw [this]; rfl
theorem right_either {l : List X} (h : ∀ x ∈ l, Rt x) : Rt (eitherX l) := by
 rw [eitherX_eq]
 have hi := bodyE_idem fun z hz => (flat4_rt h hz).2
 have hm : ∀ z ∈ bodyE l, Rt z := fun z hz => by
  rcases bodyE_mem hz with ⟨rfl, h2⟩ | ⟨a, _⟩
  ·exact rt_2 h2
  ·exact (flat4_rt h a).1
 generalize bodyE l = F at hi hm
 match F, hm, hi with
 | [], _, _ => exact rt_0
 | [z], hm, _ => exact hm z (by simp)
 | z :: w :: F, hm, hi =>
  show Rt (.mk 4 S4.zero (z :: w :: F))
  rw [rt_iff]
  refine ⟨hm, ?_⟩
  rw [ownR_mk, if_neg (by simp), if_neg (by decide), if_neg (by decide), if_neg (by decide), if_neg (by decide), if_pos rfl, eitherX_eq, hi, ofL_many (by simp), sameX_self]
  simp
theorem right_star {x : X} (h : Rt x) : Rt (starX x) := by
 cases x with
 | mk k s ks =>
  rw [starX_mk]
  split
  ·exact rt_1
  ·rename_i h01
   split
   ·exact h
   ·rename_i h5
    rw [rt_iff]
    refine ⟨fun y hy => ?_, ?_⟩
    ·obtain rfl := List.mem_singleton.1 hy
     exact h
    ·rw [ownR_mk, if_neg (by simp), if_neg (by decide), if_neg (by decide), if_pos rfl, List.headD_cons, starX_mk, if_neg h01, if_neg h5, sameX_self]
     rfl
end Go.X7
end

section
/- Brackets, order, what is there twice, and units. -/
namespace Go.X7
open Go Go.Ev Go.Srt
set_option linter.unusedVariables false
theorem flatK_two (k : Int) (a b : X) : flatK k [a, b] = flatK k [a] ++ flatK k [b] := flatK_app k [a] [b]
theorem flatK_1 {k : Int} {a : X} (h : a.k ≠ k) : flatK k [a] = [a] := flatK_none (by simpa using h)
theorem flatK_m {k k' : Int} (h : k' ≠ k) (s : S4) (ks : List X) : flatK k [.mk k' s ks] = [.mk k' s ks] := flatK_1 (a := .mk k' s ks) h
theorem flatK_k {k : Int} (s : S4) (ks : List X) : flatK k [.mk k s ks] = ks := by
 simp [flatK, X.ks, X.k]
theorem bodyC_app (p q : List X) : bodyC (p ++ q) = bodyC p ++ bodyC q := by
 unfold bodyC
 rw [flatK_app, List.filter_append]
theorem bodyC_two (a b : X) : bodyC [a, b] = bodyC [a] ++ bodyC [b] := bodyC_app [a] [b]
abbrev no0 (l : List X) : Bool := (flatK 3 l).any fun x => decide (x.k = 0)
theorem no0_app (p q : List X) : no0 (p ++ q) = (no0 p || no0 q) := by
 unfold no0
 rw [flatK_app, List.any_append]
theorem cat_part0 {p : List X} (h : no0 p = true) : no0 [catX p] = true := by
 rw [catX_eq, if_pos h]
 unfold no0
 rw [flatK_m (show (0 : Int) ≠ 3 by decide)]
 rfl
theorem cat_part {p : List X} (hr : ∀ x ∈ p, Rt x) (h : no0 p = false) : no0 [catX p] = false ∧ bodyC [catX p] = bodyC p := by
 have hm : ∀ z ∈ bodyC p, z.k ≠ 3 ∧ z.k ≠ 0 ∧ z.k ≠ 1 := fun z hz => by
  obtain ⟨a, b⟩ := List.mem_filter.1 hz
  obtain ⟨c, d⟩ := flat3_rt hr a
  refine ⟨d, fun e => ?_, by simpa using b⟩
  have : no0 p = true := List.any_eq_true.2 ⟨z, a, by simp [e]⟩
  rw [h] at this
  cases this
 rw [catX_eq, if_neg (by rw [show ((flatK 3 p).any fun x => decide (x.k = 0)) = false from h]; simp)]
 generalize bodyC p = F at hm
 match F, hm with
 | [], _ =>
  show no0 [.mk 1 S4.zero []] = false ∧ bodyC [.mk 1 S4.zero []] = []
  unfold no0 bodyC
  rw [flatK_m (show (1 : Int) ≠ 3 by decide)]
  exact ⟨rfl, rfl⟩
 | [z], hm =>
  obtain ⟨h3, h0, h1⟩ := hm z (by simp)
  show no0 [z] = false ∧ bodyC [z] = [z]
  unfold no0 bodyC
  rw [flatK_1 h3]
  simp [h0, h1]
 | z :: w :: F, hm =>
  show no0 [.mk 3 S4.zero (z :: w :: F)] = false ∧ bodyC [.mk 3 S4.zero (z :: w :: F)] = z :: w :: F
  unfold no0 bodyC
  rw [flatK_k]
  refine ⟨List.any_eq_false.2 fun y hy => ?_, List.filter_eq_self.2 fun y hy => ?_⟩
  ·simp [(hm y hy).2.1]
  ·simp [(hm y hy).2.2]
theorem cat_brackets {p q : List X} (hp : ∀ x ∈ p, Rt x) (hq : ∀ x ∈ q, Rt x) : catX [catX p, catX q] = catX (p ++ q) := by
 have e1 : no0 [catX p, catX q] = (no0 [catX p] || no0 [catX q]) := no0_app [catX p] [catX q]
 have e2 := no0_app p q
 rw [catX_eq [catX p, catX q], catX_eq (p ++ q)]
 cases h1 : no0 p with
 | true =>
  rw [if_pos (by rw [show ((flatK 3 [catX p, catX q]).any fun x => decide (x.k = 0)) = _ from e1, cat_part0 h1]; rfl), if_pos (by rw [show ((flatK 3 (p ++ q)).any fun x => decide (x.k = 0)) = _ from e2, h1]; rfl)]
 | false =>
  obtain ⟨a1, a2⟩ := cat_part hp h1
  cases h2 : no0 q with
  | true =>
   rw [if_pos (by rw [show ((flatK 3 [catX p, catX q]).any fun x => decide (x.k = 0)) = _ from e1, cat_part0 h2, a1]; rfl), if_pos (by rw [show ((flatK 3 (p ++ q)).any fun x => decide (x.k = 0)) = _ from e2, h1, h2]; rfl)]
  | false =>
   obtain ⟨b1, b2⟩ := cat_part hq h2
   rw [if_neg (by rw [show ((flatK 3 [catX p, catX q]).any fun x => decide (x.k = 0)) = _ from e1, a1, b1]; simp), if_neg (by rw [show ((flatK 3 (p ++ q)).any fun x => decide (x.k = 0)) = _ from e2, h1, h2]; simp), bodyC_two, bodyC_app, a2, b2]
/-! One of some: only the texts count. -/
theorem joinF_has : ∀ (l : List X) (s : S4) (i : Nat), (joinF s l).has i = (s.has i || l.any fun x => decide (x.k = 2) && x.s.has i)
 | [], s, i => by simp [joinF]
 | x :: l, s, i => by
  show (joinF (if x.k = 2 then s.join x.s else s) l).has i = _
  rw [joinF_has l, List.any_cons]
  by_cases h : x.k = 2
  ·rw [if_pos h, S4.join_has]
   simp [h, Bool.or_assoc]
  ·simp [h]
theorem joinB_ext {l m : List X} (hl : ∀ x ∈ l, x.ok) (hm : ∀ x ∈ m, x.ok) (h : ∀ i, i < 256 → (l.any fun x => decide (x.k = 2) && x.s.has i) = m.any fun x => decide (x.k = 2) && x.s.has i) : joinB l = joinB m :=
 S4.ext (joinF_ok S4.zero_ok hl) (joinF_ok S4.zero_ok hm) fun i hi => by
  show (joinF S4.zero l).has i = (joinF S4.zero m).has i
  rw [joinF_has, joinF_has, h i hi]
theorem base_txt {z : X} (h : z.k ≠ 2) (s : S4) : txt z ≠ txt (.mk 2 s []) := by
 have h2 : (txt (.mk 2 s [])).getLast? = some 93 := by
  rw [txt, if_neg (by decide), if_neg (by decide), if_pos rfl, setTxt, List.getLast?_append]
  rfl
 intro e
 rw [← e] at h2
 obtain ⟨k, s', ks⟩ := z
 have h : ¬ k = 2 := h
 rw [txt] at h2
 split at h2
 ·simp at h2
 ·split at h2
  ·simp at h2
  ·unfold txB at h2
   rw [List.getLast?_append] at h2
   split at h2
   ·simp at h2
   ·split at h2
    ·simp at h2
    ·simp at h2
theorem texts_E (l : List X) (t : K) : t ∈ (bodyE l).map txt ↔ t ∈ (baseX (joinB (flatK 4 l)) ++ othX (flatK 4 l)).map txt := by
 have e := bodyE_ft l t
 have key : ∀ m : List X, t ∈ m.map txt ↔ Ft t m ≠ [] := fun m => by
  rw [List.mem_map]
  constructor
  ·rintro ⟨x, hx, rfl⟩ hn
   have := (List.filter_eq_nil_iff.1 hn) x hx
   simp at this
  ·intro hn
   obtain ⟨x, hx⟩ := List.exists_mem_of_ne_nil _ hn
   exact ⟨x, (ft_mem.1 hx).1, (ft_mem.1 hx).2⟩
 rw [key, key, e]
 cases Ft t (baseX (joinB (flatK 4 l)) ++ othX (flatK 4 l)) <;> simp
theorem keys_uniq : ∀ {l m : List K}, l.Pairwise (fun a b => Lib.compareBytes a b < 0) → m.Pairwise (fun a b => Lib.compareBytes a b < 0) → (∀ t, t ∈ l ↔ t ∈ m) → l = m
 | [], [], _, _, _ => rfl
 | [], y :: m, _, _, h => by have := (h y).2 (by simp); simp at this
 | x :: l, [], _, _, h => by have := (h x).1 (by simp); simp at this
 | x :: l, y :: m, hl, hm, h => by
  obtain ⟨a1, a2⟩ := List.pairwise_cons.1 hl
  obtain ⟨b1, b2⟩ := List.pairwise_cons.1 hm
  have irr : ∀ z : K, ¬ Lib.compareBytes z z < 0 := fun z k => by rw [cb_self] at k; omega
  have hxy : x = y := by
   rcases List.mem_cons.1 ((h x).1 (by simp)) with rfl | hx
   ·rfl
   ·rcases List.mem_cons.1 ((h y).2 (by simp)) with rfl | hy
    ·rfl
    ·exact absurd (cb_trans _ _ _ (b1 x hx) (a1 y hy)) (irr y)
  subst hxy
  have : l = m := keys_uniq a2 b2 fun t => by
   constructor
   ·intro ht
    rcases List.mem_cons.1 ((h t).1 (List.mem_cons_of_mem _ ht)) with rfl | k
    ·exact absurd (a1 _ ht) (irr _)
    ·exact k
   ·intro ht
    rcases List.mem_cons.1 ((h t).2 (List.mem_cons_of_mem _ ht)) with rfl | k
    ·exact absurd (b1 _ ht) (irr _)
    ·exact k
  rw [this]
theorem ss_keys {l : List X} (h : SS l) : (l.map txt).Pairwise fun a b => Lib.compareBytes a b < 0 := List.pairwise_map.2 h
theorem txts_map {sep : List UInt8} : ∀ {l m : List X} (b : Bool), l.map txt = m.map txt → txts sep b l = txts sep b m
 | [], [], _, _ => rfl
 | [], _ :: _, _, h => by simp at h
 | _ :: _, [], _, h => by simp at h
 | x :: l, y :: m, b, h => by
  simp only [List.map_cons, List.cons.injEq] at h
  simp only [txts, h.1, txts_map false h.2]
theorem txt_ofL {l m : List X} (h : l.map txt = m.map txt) : txt (ofL l 4 0) = txt (ofL m 4 0) := by
 have hl : l.length = m.length := by have := congrArg List.length h; simpa using this
 match l, m, hl, h with
 | [], [], _, _ => rfl
 | [x], [y], _, h => simpa [ofL] using h
 | x :: x' :: l, y :: y' :: m, _, h =>
  show txt (.mk 4 S4.zero (x :: x' :: l)) = txt (.mk 4 S4.zero (y :: y' :: m))
  rw [txt, txt, txts_map true h]
theorem txt_either {l m : List X} (hJ : joinB (flatK 4 l) = joinB (flatK 4 m)) (hO : ∀ t, t ∈ (othX (flatK 4 l)).map txt ↔ t ∈ (othX (flatK 4 m)).map txt) : txt (eitherX l) = txt (eitherX m) := by
 rw [eitherX_eq, eitherX_eq]
 refine txt_ofL (keys_uniq (ss_keys (bodyE_ss l)) (ss_keys (bodyE_ss m)) fun t => ?_)
 rw [texts_E, texts_E, List.map_append, List.map_append, List.mem_append, List.mem_append, hJ, hO]
/-- The same ones, in whatever order, however often. -/
theorem either_perm {l m : List X} (hl : ∀ x ∈ l, x.ok) (h : ∀ x, x ∈ l ↔ x ∈ m) : txt (eitherX l) = txt (eitherX m) := by
 have hf : ∀ x, x ∈ flatK 4 l ↔ x ∈ flatK 4 m := fun x => by
  unfold flatK
  rw [List.mem_flatMap, List.mem_flatMap]
  constructor
  ·rintro ⟨y, hy, hx⟩; exact ⟨y, (h y).1 hy, hx⟩
  ·rintro ⟨y, hy, hx⟩; exact ⟨y, (h y).2 hy, hx⟩
 have hm : ∀ x ∈ m, x.ok := fun x hx => hl x ((h x).2 hx)
 refine txt_either (joinB_ext (flatK_ok hl) (flatK_ok hm) fun i _ => ?_) fun t => ?_
 ·rw [Bool.eq_iff_iff, List.any_eq_true, List.any_eq_true]
  constructor
  ·rintro ⟨x, hx, h2⟩; exact ⟨x, (hf x).1 hx, h2⟩
  ·rintro ⟨x, hx, h2⟩; exact ⟨x, (hf x).2 hx, h2⟩
 ·rw [List.mem_map, List.mem_map]
  constructor
  ·rintro ⟨x, hx, rfl⟩
   obtain ⟨a, b⟩ := List.mem_filter.1 hx
   exact ⟨x, List.mem_filter.2 ⟨(hf x).1 a, b⟩, rfl⟩
  ·rintro ⟨x, hx, rfl⟩
   obtain ⟨a, b⟩ := List.mem_filter.1 hx
   exact ⟨x, List.mem_filter.2 ⟨(hf x).2 a, b⟩, rfl⟩
theorem either_part {p : List X} (hr : ∀ x ∈ p, Rt x) : ∀ x : X, x.k ≠ 0 → (x ∈ flatK 4 [eitherX p] ↔ x ∈ bodyE p) := by
 have hm : ∀ z ∈ bodyE p, z.k ≠ 4 := fun z hz => by
  rcases bodyE_mem hz with ⟨rfl, _⟩ | ⟨a, _⟩
  ·show (2 : Int) ≠ 4
   decide
  ·exact (flat4_rt hr a).2
 intro x hx
 rw [eitherX_eq]
 generalize bodyE p = F at hm
 match F, hm with
 | [], _ =>
  show x ∈ flatK 4 [.mk 0 S4.zero []] ↔ _
  rw [flatK_m (show (0 : Int) ≠ 4 by decide)]
  constructor
  ·intro h
   obtain rfl := List.mem_singleton.1 h
   exact absurd rfl hx
  ·intro h; simp at h
 | [z], hm =>
  show x ∈ flatK 4 [z] ↔ _
  rw [flatK_1 (hm z (by simp))]
 | z :: w :: F, hm =>
  show x ∈ flatK 4 [.mk 4 S4.zero (z :: w :: F)] ↔ _
  rw [flatK_k]
theorem part_join {p : List X} (hr : ∀ x ∈ p, Rt x) (i : Nat) : ((flatK 4 [eitherX p]).any fun x => decide (x.k = 2) && x.s.has i) = ((flatK 4 p).any fun x => decide (x.k = 2) && x.s.has i) := by
 have h1 : ((flatK 4 [eitherX p]).any fun x => decide (x.k = 2) && x.s.has i) = ((bodyE p).any fun x => decide (x.k = 2) && x.s.has i) := by
  rw [Bool.eq_iff_iff, List.any_eq_true, List.any_eq_true]
  constructor
  ·rintro ⟨x, hx, h2⟩
   exact ⟨x, (either_part hr x (fun e => by simp [e] at h2)).1 hx, h2⟩
  ·rintro ⟨x, hx, h2⟩
   exact ⟨x, (either_part hr x (fun e => by simp [e] at h2)).2 hx, h2⟩
 have h2 := congrArg (fun s => S4.has s i) (bodyE_join p)
 have h3 := joinF_has (bodyE p) S4.zero i
 have h4 := joinF_has (flatK 4 p) S4.zero i
 rw [S4.zero_has, Bool.false_or] at h3 h4
 rw [h1, ← h3, ← h4]
 exact h2
theorem part_oth {p : List X} (hr : ∀ x ∈ p, Rt x) (t : K) : t ∈ (othX (flatK 4 [eitherX p])).map txt ↔ t ∈ (othX (flatK 4 p)).map txt := by
 rw [List.mem_map, List.mem_map]
 constructor
 ·rintro ⟨x, hx, rfl⟩
  obtain ⟨a, b, c⟩ := oth_k hx
  have hx := (either_part hr x b).1 a
  rcases bodyE_mem hx with ⟨rfl, _⟩ | ⟨a, _⟩
  ·exact absurd rfl c
  ·exact ⟨x, List.mem_filter.2 ⟨a, by simp [b, c]⟩, rfl⟩
 ·rintro ⟨x, hx, rfl⟩
  obtain ⟨a, b, c⟩ := oth_k hx
  have : txt x ∈ (bodyE p).map txt := (texts_E p _).2 (by rw [List.map_append, List.mem_append]; exact .inr (List.mem_map.2 ⟨x, hx, rfl⟩))
  obtain ⟨z, hz, e⟩ := List.mem_map.1 this
  rcases bodyE_mem hz with ⟨rfl, _⟩ | ⟨_, h0, h2⟩
  ·exact absurd e.symm (base_txt c _)
  ·exact ⟨z, List.mem_filter.2 ⟨(either_part hr z h0).2 hz, by simp [h0, h2]⟩, e⟩
theorem either_brackets {p q : List X} (hp : ∀ x ∈ p, Rt x) (hq : ∀ x ∈ q, Rt x) (op : ∀ x ∈ p, x.ok) (oq : ∀ x ∈ q, x.ok) : txt (eitherX [eitherX p, eitherX q]) = txt (eitherX (p ++ q)) := by
 have o1 : ∀ x ∈ [eitherX p, eitherX q], x.ok := fun x hx => by
  simp only [List.mem_cons, List.not_mem_nil, or_false] at hx
  rcases hx with rfl | rfl
  ·exact eitherX_ok op
  ·exact eitherX_ok oq
 have o2 : ∀ x ∈ p ++ q, x.ok := fun x hx => by
  rcases List.mem_append.1 hx with h | h
  ·exact op x h
  ·exact oq x h
 refine txt_either (joinB_ext (flatK_ok o1) (flatK_ok o2) fun i _ => ?_) fun t => ?_
 ·rw [flatK_two, flatK_app, List.any_append, List.any_append, part_join hp, part_join hq]
 ·have e : ∀ a b : List X, othX (a ++ b) = othX a ++ othX b := fun a b => List.filter_append ..
  rw [flatK_two, flatK_app, e, e, List.map_append, List.map_append, List.mem_append, List.mem_append, part_oth hp, part_oth hq]
/-! Units. -/
def il (e : X) (l : List X) : List X := l.flatMap fun x => [e, x]
abbrev x0 : X := .mk 0 S4.zero []
abbrev x1 : X := .mk 1 S4.zero []
end Go.X7
end

