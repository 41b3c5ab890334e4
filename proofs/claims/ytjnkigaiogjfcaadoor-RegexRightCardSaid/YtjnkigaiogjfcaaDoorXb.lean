/- Xb: a part of the proof that each law of this seat answers true at every input. No condition. -/
import Derived.Test.YtjnkigaiogjfcaaDoorXa
set_option linter.unusedVariables false
set_option linter.unusedSimpArgs false
set_option maxRecDepth 20000
section
/- What these make of what is right is right. -/
namespace Go.X7
open Go Go.Ev Go.Srt
set_option linter.unusedVariables false
mutual
theorem sameX_eq : ∀ {x y : X}, sameX x y = true → x = y
 | .mk k s ks, .mk k' s' ks', h => by
  simp only [sameX, Bool.and_eq_true, decide_eq_true_eq] at h
  obtain ⟨⟨rfl, rfl⟩, h3⟩ := h
  rw [sameXs_eq h3]
theorem sameXs_eq : ∀ {l m : List X}, sameXs l m = true → l = m
 | [], [], _ => rfl
 | [], _ :: _, h => by simp [sameXs] at h
 | _ :: _, [], h => by simp [sameXs] at h
 | x :: l, y :: m, h => by
  simp only [sameXs, Bool.and_eq_true] at h
  rw [sameX_eq h.1, sameXs_eq h.2]
end
abbrev Rt (x : X) : Prop := rightX x = true
theorem rightXs_iff {l : List X} : rightXs l = true ↔ ∀ x ∈ l, Rt x := by rw [rightXs_all, List.all_eq_true]
theorem rt_iff (x : X) : Rt x ↔ (∀ y ∈ x.ks, Rt y) ∧ ownR x = true := by
 cases x with
 | mk k s ks =>
  show (rightXs ks && ownR (.mk k s ks)) = true ↔ _
  rw [Bool.and_eq_true, rightXs_iff]
  exact Iff.rfl
theorem flatK_none {k : Int} {l : List X} (h : ∀ x ∈ l, x.k ≠ k) : flatK k l = l := by
 induction l with
 | nil => rfl
 | cons x l ih =>
  have e := ih fun y hy => h y (List.mem_cons_of_mem _ hy)
  unfold flatK at e ⊢
  rw [List.flatMap_cons, if_neg (h x List.mem_cons_self), e]
  rfl
theorem flatK_app (k : Int) (l m : List X) : flatK k (l ++ m) = flatK k l ++ flatK k m := by
 unfold flatK
 rw [List.flatMap_append]
theorem flatK_lt {k : Int} {l : List X} {x : X} (hx : x ∈ l) (hk : x.k = k) : sizes (flatK k l) < sizes l := by
 obtain ⟨a, b, rfl⟩ := List.append_of_mem hx
 have e1 : flatK k (a ++ x :: b) = flatK k a ++ (x.ks ++ flatK k b) := by
  rw [flatK_app]
  congr 1
  unfold flatK
  rw [List.flatMap_cons, if_pos hk]
 have h1 := flatK_sizes (k := k) a
 have h2 := flatK_sizes (k := k) b
 have h3 := size_eq x
 rw [e1]
 simp only [sizes_append, sizes]
 omega
theorem mem_flatK {k : Int} {l : List X} {z : X} (h : z ∈ flatK k l) : (z ∈ l ∧ z.k ≠ k) ∨ ∃ y ∈ l, y.k = k ∧ z ∈ y.ks := by
 obtain ⟨y, hy, hz⟩ := List.mem_flatMap.1 h
 split at hz
 ·rename_i e
  exact .inr ⟨y, hy, e, hz⟩
 ·rename_i e
  obtain rfl := List.mem_singleton.1 hz
  exact .inl ⟨hy, e⟩
theorem mem_sizes {x : X} {ks : List X} {k : Int} {s : S4} (h : x ∈ flatK k ks) : x ≠ .mk k s ks := fun e => by
 have h1 := size_mem h
 have h2 := flatK_sizes (k := k) ks
 rw [e] at h1
 simp only [X.size] at h1
 omega
/-! One behind the other. -/
def bodyC (l : List X) : List X := (flatK 3 l).filter fun x => !decide (x.k = 1)
theorem catX_eq (l : List X) : catX l = if (flatK 3 l).any (fun x => decide (x.k = 0)) then .mk 0 S4.zero [] else ofL (bodyC l) 3 1 := rfl
theorem ofL_many {l : List X} (h : 1 < l.length) (k n : Int) : ofL l k n = .mk k S4.zero l := by
 match l, h with
 | x :: y :: l, _ => rfl
theorem rt_cat {x : X} (h : Rt x) (h3 : x.k = 3) : ∀ y ∈ x.ks, Rt y ∧ y.k ≠ 3 ∧ y.k ≠ 0 ∧ y.k ≠ 1 := by
 obtain ⟨k, s, ks⟩ := x
 obtain rfl : k = 3 := h3
 obtain ⟨h1, h2⟩ := (rt_iff _).1 h
 rw [ownR_mk] at h2
 split at h2
 ·cases h2
 ·rename_i hs
  have hs : s = S4.zero := Classical.byContradiction fun e => hs ⟨by decide, e⟩
  subst hs
  rw [if_neg (by decide), if_neg (by decide), if_neg (by decide), if_pos rfl, Bool.and_eq_true, decide_eq_true_eq] at h2
  obtain ⟨hl, hc⟩ := h2
  have hc := sameX_eq hc
  rw [catX_eq] at hc
  split at hc
  ·injection hc with e; exact absurd e (by decide)
  ·rename_i hany
   have hF : bodyC ks = ks := by
    have key : ∀ F : List X, F = bodyC ks → ofL F 3 1 = .mk 3 S4.zero ks → F = ks := fun F hF e => by
     match F, hF, e with
     | [], _, e => injection e with e
     | [z], hF, e =>
      have hz : z ∈ bodyC ks := by rw [← hF]; simp
      exact absurd e (mem_sizes (List.mem_filter.1 hz).1)
     | z :: w :: F, _, e => injection e
    exact key _ rfl hc
   have hno : ∀ y ∈ ks, y.k ≠ 3 := fun y hy hk => by
    have a1 := flatK_lt hy hk
    have a2 := sizes_filter (fun x => !decide (x.k = 1)) (flatK 3 ks)
    have a3 : sizes ((flatK 3 ks).filter fun x => !decide (x.k = 1)) = sizes ks := by rw [show ((flatK 3 ks).filter fun x => !decide (x.k = 1)) = ks from hF]
    omega
   intro y hy
   refine ⟨h1 y hy, hno y hy, fun h0 => hany ?_, fun h0 => ?_⟩
   ·rw [flatK_none hno]
    exact List.any_eq_true.2 ⟨y, hy, by simp [h0]⟩
   ·have hy' : y ∈ bodyC ks := by rw [hF]; exact hy
    have := (List.mem_filter.1 hy').2
    simp [h0] at this
theorem flat3_rt {l : List X} (h : ∀ x ∈ l, Rt x) {z : X} (hz : z ∈ flatK 3 l) : Rt z ∧ z.k ≠ 3 := by
 rcases mem_flatK hz with ⟨h1, h2⟩ | ⟨y, hy, hk, hz⟩
 ·exact ⟨h z h1, h2⟩
 ·have := rt_cat (h y hy) hk z hz
  exact ⟨this.1, this.2.1⟩
theorem rt_0 : Rt (.mk 0 S4.zero []) := by
 rw [rt_iff]
 exact ⟨fun y hy => by simp [X.ks] at hy, by rw [ownR_mk, if_neg (by simp), if_pos (by simp)]; rfl⟩
theorem rt_1 : Rt (.mk 1 S4.zero []) := by
 rw [rt_iff]
 exact ⟨fun y hy => by simp [X.ks] at hy, by rw [ownR_mk, if_neg (by simp), if_pos (by simp)]; rfl⟩
theorem rt_2 {s : S4} (hs : s ≠ S4.zero) : Rt (.mk 2 s []) := by
 rw [rt_iff]
 refine ⟨fun y hy => by simp [X.ks] at hy, ?_⟩
 rw [ownR_mk, if_neg (by simp), if_neg (by decide), if_pos rfl]
 simp [hs]
theorem right_cat {l : List X} (h : ∀ x ∈ l, Rt x) : Rt (catX l) := by
 rw [catX_eq]
 split
 ·exact rt_0
 ·rename_i hany
  have hm : ∀ z ∈ bodyC l, Rt z ∧ z.k ≠ 3 ∧ z.k ≠ 0 ∧ z.k ≠ 1 := fun z hz => by
   obtain ⟨a, b⟩ := List.mem_filter.1 hz
   obtain ⟨c, d⟩ := flat3_rt h a
   refine ⟨c, d, fun e => hany (List.any_eq_true.2 ⟨z, a, by simp [e]⟩), by simpa using b⟩
  generalize bodyC l = F at hm
  match F, hm with
  | [], _ => exact rt_1
  | [z], hm => exact (hm z (by simp)).1
  | z :: w :: F, hm =>
   show Rt (.mk 3 S4.zero (z :: w :: F))
   rw [rt_iff]
   refine ⟨fun y hy => (hm y hy).1, ?_⟩
   rw [ownR_mk, if_neg (by simp), if_neg (by decide), if_neg (by decide), if_neg (by decide), if_pos rfl]
   have e : catX (z :: w :: F) = .mk 3 S4.zero (z :: w :: F) := by
    rw [catX_eq, bodyC, flatK_none fun y hy => (hm y hy).2.1, if_neg, List.filter_eq_self.2 fun y hy => by simp [(hm y hy).2.2.2]]
    ·rfl
    ·intro hc
     obtain ⟨y, hy, h0⟩ := List.any_eq_true.1 hc
     exact (hm y hy).2.2.1 (of_decide_eq_true h0)
   rw [e, sameX_self]
   simp
/-! One of some. -/
def bodyE (l : List X) : List X := (othX (flatK 4 l)).foldl (fun a r => putX r a) (baseX (joinB (flatK 4 l)))
theorem eitherX_eq (l : List X) : eitherX l = ofL (bodyE l) 4 0 := rfl
theorem bodyE_ss (l : List X) : SS (bodyE l) := (fold_ok _ (base_ss _)).1
theorem bodyE_ft (l : List X) (t : K) : Ft t (bodyE l) = (Ft t (baseX (joinB (flatK 4 l)) ++ othX (flatK 4 l))).take 1 := (fold_ok _ (base_ss _)).2 t
theorem base_mem {s : S4} {z : X} (h : z ∈ baseX s) : z = .mk 2 s [] ∧ s ≠ S4.zero := by
 unfold baseX at h
 split at h
 ·simp at h
 ·rename_i e
  exact ⟨List.mem_singleton.1 h, e⟩
theorem oth_k {m : List X} {z : X} (h : z ∈ othX m) : z ∈ m ∧ z.k ≠ 0 ∧ z.k ≠ 2 := by
 obtain ⟨a, b⟩ := List.mem_filter.1 h
 simp only [Bool.and_eq_true, Bool.not_eq_true', decide_eq_false_iff_not] at b
 exact ⟨a, b.1, b.2⟩
theorem bodyE_mem {l : List X} {z : X} (h : z ∈ bodyE l) : (z = .mk 2 (joinB (flatK 4 l)) [] ∧ joinB (flatK 4 l) ≠ S4.zero) ∨ (z ∈ flatK 4 l ∧ z.k ≠ 0 ∧ z.k ≠ 2) := by
 rcases fold_mem _ _ z h with h | h
 ·exact .inl (base_mem h)
 ·exact .inr (oth_k h)
theorem sizes_filter_lt {p : X → Bool} {l : List X} {x : X} (hx : x ∈ l) (hp : p x = false) : sizes (l.filter p) < sizes l := by
 obtain ⟨a, b, rfl⟩ := List.append_of_mem hx
 rw [List.filter_append, List.filter_cons, if_neg (by simp [hp])]
 have h1 := sizes_filter p a
 have h2 := sizes_filter p b
 have h3 := size_pos x
 simp only [sizes_append, sizes]
 omega
theorem bodyE_sizes (l : List X) : sizes (bodyE l) ≤ sizes (flatK 4 l) := by
 have h2 := fold_sizes (othX (flatK 4 l)) (baseX (joinB (flatK 4 l)))
 have h3 := sizes_filter (fun x => !decide (x.k = 0) && !decide (x.k = 2)) (flatK 4 l)
 have h4 : sizes (baseX (joinB (flatK 4 l))) + sizes (othX (flatK 4 l)) ≤ sizes (flatK 4 l) := by
  by_cases hz : joinB (flatK 4 l) = S4.zero
  ·rw [baseX, if_pos hz]
   simp only [sizes]
   unfold othX
   omega
  ·rw [baseX, if_neg hz]
   have : ∃ x ∈ flatK 4 l, x.k = 2 := Classical.byContradiction fun hc => hz (joinF_none _ fun x hx h2 => hc ⟨x, hx, h2⟩)
   obtain ⟨x, hx, hk⟩ := this
   have := sizes_filter_lt (p := fun x => !decide (x.k = 0) && !decide (x.k = 2)) hx (by simp [hk])
   simp only [sizes, X.size]
   unfold othX
   omega
 unfold bodyE
 omega
theorem rt_either {x : X} (h : Rt x) (h4 : x.k = 4) : ∀ y ∈ x.ks, Rt y ∧ y.k ≠ 4 := by
 obtain ⟨k, s, ks⟩ := x
 obtain rfl : k = 4 := h4
 obtain ⟨h1, h2⟩ := (rt_iff _).1 h
 rw [ownR_mk] at h2
 split at h2
 ·cases h2
 ·rename_i hs
  have hs : s = S4.zero := Classical.byContradiction fun e => hs ⟨by decide, e⟩
  subst hs
  rw [if_neg (by decide), if_neg (by decide), if_neg (by decide), if_neg (by decide), if_pos rfl, Bool.and_eq_true, decide_eq_true_eq] at h2
  obtain ⟨hl, hc⟩ := h2
  have hc := sameX_eq hc
  rw [eitherX_eq] at hc
  have hF : bodyE ks = ks := by
   have key : ∀ F : List X, F = bodyE ks → ofL F 4 0 = .mk 4 S4.zero ks → F = ks := fun F hF e => by
    match F, hF, e with
    | [], _, e => injection e with e
    | [z], hF, e =>
     have e : z = .mk 4 S4.zero ks := e
     have hz : z ∈ bodyE ks := by rw [← hF]; simp
     rcases bodyE_mem hz with ⟨a, _⟩ | ⟨a, _⟩
     ·rw [e] at a
      injection a with a
      exact absurd a (by decide)
     ·exact absurd e (mem_sizes a)
    | z :: w :: F, _, e => injection e
   exact key _ rfl hc
  intro y hy
  refine ⟨h1 y hy, fun hk => ?_⟩
  have a1 : sizes (flatK 4 ks) < sizes ks := flatK_lt hy hk
  have a2 := bodyE_sizes ks
  rw [hF] at a2
  omega
theorem flat4_rt {l : List X} (h : ∀ x ∈ l, Rt x) {z : X} (hz : z ∈ flatK 4 l) : Rt z ∧ z.k ≠ 4 := by
 rcases mem_flatK hz with ⟨h1, h2⟩ | ⟨y, hy, hk, hz⟩
 ·exact ⟨h z h1, h2⟩
 ·exact rt_either (h y hy) hk z hz
theorem S4.join_self (s : S4) : s.join s = s := by
 cases s
 simp [S4.join]
theorem S4.zero_join (s : S4) : S4.zero.join s = s := by
 cases s
 simp [S4.join, S4.zero]
theorem joinF_one {s : S4} : ∀ {l : List X} {a : S4}, (∀ x ∈ l, x.k = 2 → x.s = s) → (a = s ∨ (a = S4.zero ∧ ∃ x ∈ l, x.k = 2)) → joinF a l = s
 | [], a, _, h => by
  rcases h with rfl | ⟨_, x, hx, _⟩
  ·rfl
  ·simp at hx
 | x :: l, a, hs, h => by
  show joinF (if x.k = 2 then a.join x.s else a) l = s
  refine joinF_one (fun y hy => hs y (List.mem_cons_of_mem _ hy)) ?_
  by_cases hk : x.k = 2
  ·rw [if_pos hk, hs x List.mem_cons_self hk]
   rcases h with rfl | ⟨rfl, _⟩
   ·exact .inl (S4.join_self _)
   ·exact .inl (S4.zero_join _)
  ·rw [if_neg hk]
   rcases h with h | ⟨h, y, hy, h2⟩
   ·exact .inl h
   ·rcases List.mem_cons.1 hy with rfl | hy
    ·exact absurd h2 hk
    ·exact .inr ⟨h, y, hy, h2⟩
theorem ft_mem {t : K} {l : List X} {z : X} : z ∈ Ft t l ↔ z ∈ l ∧ txt z = t := by simp
theorem base_in (l : List X) (h : joinB (flatK 4 l) ≠ S4.zero) : .mk 2 (joinB (flatK 4 l)) [] ∈ bodyE l := by
 have e := bodyE_ft l (txt (.mk 2 (joinB (flatK 4 l)) []))
 have hb : baseX (joinB (flatK 4 l)) = [.mk 2 (joinB (flatK 4 l)) []] := by rw [baseX, if_neg h]
 rw [hb, List.cons_append, List.nil_append, ft_cons, ft_one, if_pos rfl, List.cons_append, List.take_succ_cons] at e
 have : X.mk 2 (joinB (flatK 4 l)) [] ∈ Ft (txt (.mk 2 (joinB (flatK 4 l)) [])) (bodyE l) := by rw [e]; simp
 exact (ft_mem.1 this).1
/-- Its bytes are the same. -/
theorem bodyE_join (l : List X) : joinB (bodyE l) = joinB (flatK 4 l) := by
 have hs : ∀ x ∈ bodyE l, x.k = 2 → x.s = joinB (flatK 4 l) := fun x hx hk => by
  rcases bodyE_mem hx with ⟨rfl, _⟩ | ⟨_, _, h⟩
  ·rfl
  ·exact absurd hk h
 by_cases hz : joinB (flatK 4 l) = S4.zero
 ·rw [hz]
  refine joinF_none _ fun x hx hk => ?_
  rcases bodyE_mem hx with ⟨_, h⟩ | ⟨_, _, h⟩
  ·exact h hz
  ·exact h hk
 ·exact joinF_one hs (.inr ⟨rfl, _, base_in l hz, rfl⟩)
theorem bodyE_flat {l : List X} (h : ∀ z ∈ flatK 4 l, z.k ≠ 4) : flatK 4 (bodyE l) = bodyE l := flatK_none fun z hz => by
 rcases bodyE_mem hz with ⟨rfl, _⟩ | ⟨a, _⟩
 ·show (2 : Int) ≠ 4
  decide
 ·exact h z a
theorem bodyE_idem {l : List X} (h : ∀ z ∈ flatK 4 l, z.k ≠ 4) : bodyE (bodyE l) = bodyE l := by
 refine SS.uniq (bodyE_ss _) (bodyE_ss _) fun t => ?_
 rw [bodyE_ft, bodyE_flat h, bodyE_join]
 have hlen := SS.ft (bodyE_ss l) t
 have hb : ∀ z, z ∈ baseX (joinB (flatK 4 l)) → z ∈ bodyE l := fun z hz => by
  obtain ⟨rfl, h2⟩ := base_mem hz
  exact base_in l h2
 have hsub : ∀ z, z ∈ Ft t (baseX (joinB (flatK 4 l)) ++ othX (bodyE l)) ↔ z ∈ Ft t (bodyE l) := fun z => by
  rw [ft_mem, ft_mem, List.mem_append]
  constructor
  ·rintro ⟨h1 | h1, h2⟩
   ·exact ⟨hb z h1, h2⟩
   ·exact ⟨(oth_k h1).1, h2⟩
  ·rintro ⟨h1, h2⟩
   refine ⟨?_, h2⟩
   rcases bodyE_mem h1 with ⟨rfl, h3⟩ | ⟨_, h3, h4⟩
   ·left
    rw [baseX, if_neg h3]; simp
   ·right
    exact List.mem_filter.2 ⟨h1, by simp [h3, h4]⟩
 generalize hA : Ft t (baseX (joinB (flatK 4 l)) ++ othX (bodyE l)) = A at hsub
 generalize hB : Ft t (bodyE l) = B at hsub hlen
 match B, hlen with
 | [], _ =>
  have : A = [] := List.eq_nil_iff_forall_not_mem.2 fun z hz => by simpa using (hsub z).1 hz
  rw [this]; rfl
 | [b], _ =>
  match A with
  | [] => have := (hsub b).2 (by simp); simp at this
  | a :: A =>
   have := (hsub a).1 (by simp)
   simp at this
   rw [this]; rfl
theorem right_either {l : List X} (h : ∀ x ∈ l, Rt x) : Rt (eitherX l) := by
 rw [eitherX_eq]
 have hi := bodyE_idem fun z hz => (flat4_rt h hz).2
 have hm : ∀ z ∈ bodyE l, Rt z := fun z hz => by
  rcases bodyE_mem hz with ⟨rfl, h2⟩ | ⟨a, _⟩
  ·exact rt_2 h2
  ·exact (flat4_rt h a).1
 generalize bodyE l = F at hi hm
 match F, hm, hi with
 | [], _, _ => exact rt_0
 | [z], hm, _ => exact hm z (by simp)
 | z :: w :: F, hm, hi =>
  show Rt (.mk 4 S4.zero (z :: w :: F))
  rw [rt_iff]
  refine ⟨hm, ?_⟩
  rw [ownR_mk, if_neg (by simp), if_neg (by decide), if_neg (by decide), if_neg (by decide), if_neg (by decide), if_pos rfl, eitherX_eq, hi, ofL_many (by simp), sameX_self]
  simp
theorem right_star {x : X} (h : Rt x) : Rt (starX x) := by
 cases x with
 | mk k s ks =>
  rw [starX_mk]
  split
  ·exact rt_1
  ·rename_i h01
   split
   ·exact h
   ·rename_i h5
    rw [rt_iff]
    refine ⟨fun y hy => ?_, ?_⟩
    ·obtain rfl := List.mem_singleton.1 hy
     exact h
    ·rw [ownR_mk, if_neg (by simp), if_neg (by decide), if_neg (by decide), if_pos rfl, List.headD_cons, starX_mk, if_neg h01, if_neg h5, sameX_self]
     rfl
end Go.X7
end

section
/- Brackets, order, what is there twice, and units. -/
namespace Go.X7
open Go Go.Ev Go.Srt
set_option linter.unusedVariables false
/-! One of some: only the texts count. -/
/-! Units. -/
def il (e : X) (l : List X) : List X := l.flatMap fun x => [e, x]
abbrev x0 : X := .mk 0 S4.zero []
abbrev x1 : X := .mk 1 S4.zero []
end Go.X7
end

