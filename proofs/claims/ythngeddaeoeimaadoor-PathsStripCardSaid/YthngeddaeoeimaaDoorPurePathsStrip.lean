import Derived.Test.YthngeddaeoeimaaDoorPathsP
namespace Go.Proofs.YthngeddaeoeimaaDoor.Pure
set_option linter.unusedVariables false
set_option linter.unusedSimpArgs false
open Go Go.RowKit Go.Proofs.YthngeddaeoeimaaDoor.Pa Go.Proofs.YthngeddaeoeimaaDoor.PathsP Go.Proofs.YthngeddaeoeimaaDoorW.PrintWords Go.Proofs.YthngeddaeoeimaaDoorW.PrintLast
open Go.Proofs.YthngeddaeoeimaaDoor.LinesP (tb tb_data tb_of tb_toList sz map_tb map_data w64 wn Ev.bindS at_drop)
theorem paths_alive_ev : Ev (fun k => patchworklaw3_alive.f k) true := Ev.of patchworklaw3_alive.mono (k := 20) (by kernel_rfl)
def EndsOut (s : List UInt8) : Prop := ∃ d x, s = d ++ [x] ∧ x ≠ 47
theorem ends_suffix {u t : List UInt8} (h : EndsOut (u ++ t)) (ht : t ≠ []) : EndsOut t := by
  obtain ⟨d, x, e, hx⟩ := h
  rcases List.eq_nil_or_concat t with rfl | ⟨t', y, rfl⟩
  · exact absurd rfl ht
  · rw [List.concat_eq_append] at e ⊢
    rw [← List.append_assoc] at e
    have := List.append_inj_right' e rfl
    simp only [List.cons.injEq, and_true] at this
    exact ⟨t', y, rfl, by rw [this]; exact hx⟩
theorem trim_suffix : ∀ r : List UInt8, ∃ u, r = u ++ trimL r
  | [] => ⟨[], rfl⟩
  | b :: r => by
    rw [trimL]
    split
    · obtain ⟨u, e⟩ := trim_suffix r
      exact ⟨b :: u, by rw [List.cons_append, ← e]⟩
    · exact ⟨[], rfl⟩
theorem trim_nil : ∀ {r : List UInt8}, trimL r = [] → ∀ b ∈ r, b = 47
  | [], _ => by simp
  | b :: r, h => by
    rw [trimL] at h
    split at h
    · rename_i hb
      intro c hc
      rcases List.mem_cons.1 hc with rfl | hc
      · exact hb
      · exact trim_nil h c hc
    · cases h
theorem trim_parts : ∀ r : List UInt8, parts (trimL r) = parts r
  | [] => rfl
  | b :: r => by
    rw [trimL]
    split
    · rename_i hb
      rw [trim_parts r]
      subst hb
      unfold parts
      conv => rhs; rw [pcs]
      simp
    · rfl
theorem cut_split : ∀ {s r : List UInt8}, cutL s = some r → ∃ p, s = p ++ 47 :: r ∧ (47 : UInt8) ∉ p
  | b :: s, r, h => by
    rw [cutL] at h
    split at h
    · rename_i hb
      simp only [Option.some.injEq] at h
      subst h; subst hb
      exact ⟨[], rfl, by simp⟩
    · rename_i hb
      obtain ⟨p, e, hp⟩ := cut_split h
      exact ⟨b :: p, by rw [e]; rfl, by simp [hp]; exact fun h => hb h.symm⟩
theorem pcs_nil : ∀ {l cur : List UInt8}, pcs cur l = [] → cur = [] ∧ ∀ b ∈ l, b = 47
  | [], cur, h => by
    rw [pcs] at h
    split at h
    · rename_i hc; exact ⟨hc, by simp⟩
    · cases h
  | b :: l, cur, h => by
    rw [pcs] at h
    split at h
    · rename_i hb
      split at h
      · rename_i hc
        refine ⟨hc, fun c hm => ?_⟩
        rcases List.mem_cons.1 hm with rfl | hm
        · exact hb
        · exact (pcs_nil h).2 c hm
      · cases h
    · have := (pcs_nil h).1; simp at this
theorem base_cut {s r : List UInt8} (h : cutL s = some r) (hs : EndsOut s) : base (trimL r) = base s ∧ EndsOut (trimL r) := by
  obtain ⟨p, rfl, hp⟩ := cut_split h
  have hr : r ≠ [] := by
    rintro rfl
    obtain ⟨d, x, e, hx⟩ := hs
    have := List.append_inj_right' e rfl
    simp at this
    exact hx this.symm
  have her : EndsOut r := ends_suffix (u := p ++ [47]) (by simpa using hs) hr
  have hex : ¬ ∀ b ∈ r, b = 47 := by
    intro hall
    obtain ⟨d, x, rfl, hx⟩ := her
    exact hx (hall x (by simp))
  have hpr : parts r ≠ [] := fun e => hex (pcs_nil e).2
  refine ⟨?_, ?_⟩
  · unfold base
    rw [trim_parts]
    have : parts (p ++ 47 :: r) = if p = [] then parts r else p :: parts r := by
      unfold parts
      rw [pcs_skip p [] _ hp, List.nil_append, pcs, if_pos rfl]
    rw [this]
    split
    · rfl
    · cases hq : parts r with
      | nil => exact absurd hq hpr
      | cons x l => rfl
  · obtain ⟨u, e⟩ := trim_suffix r
    rw [e] at her
    exact ends_suffix her (fun e => hex (trim_nil e))
theorem strip_base : ∀ (n : Nat) (s : List UInt8), EndsOut s → base (strip n s) = base s
  | 0, s, _ => rfl
  | n + 1, s, hs => by
    rw [strip]
    cases h : cutL s with
    | none => rfl
    | some r =>
      obtain ⟨h1, h2⟩ := base_cut h hs
      simp only
      rw [strip_base n _ h2, h1]
theorem strip_add : ∀ (a b : Nat) (s : List UInt8), strip b (strip a s) = strip (a + b) s
  | 0, b, s => by rw [strip, Nat.zero_add]
  | a + 1, b, s => by
    rw [show a + 1 + b = (a + b) + 1 by omega, strip, strip]
    cases h : cutL s with
    | none =>
      simp only
      cases b with
      | zero => rfl
      | succ b => rw [strip, h]
    | some r => exact strip_add a b (trimL r)
theorem strip_suffix : ∀ (n : Nat) (s : List UInt8), ∃ u, s = u ++ strip n s
  | 0, s => ⟨[], rfl⟩
  | n + 1, s => by
    rw [strip]
    cases h : cutL s with
    | none => exact ⟨[], rfl⟩
    | some r =>
      obtain ⟨p, e, _⟩ := cut_split h
      obtain ⟨u, e2⟩ := trim_suffix r
      obtain ⟨v, e3⟩ := strip_suffix n (trimL r)
      refine ⟨p ++ 47 :: u ++ v, ?_⟩
      simp only
      conv => lhs; rw [e, e2, e3]
      simp
theorem bt_last (a : ByteArray) (h : 0 < a.size) : ∃ d x, a.data.toList = d ++ [x] ∧ bt a ((a.size - 1 : Nat) : Int) = (x.toNat : Int) := by
  have h' : a.data.toList ≠ [] := fun e => by rw [sz, e] at h; simp at h
  rcases List.eq_nil_or_concat a.data.toList with e | ⟨d, x, e⟩
  · exact absurd e h'
  · rw [List.concat_eq_append] at e
    refine ⟨d, x, e, ?_⟩
    have hs : a.size - 1 = d.length := by rw [sz, e]; simp
    rw [hs]
    unfold bt
    have hlt : (d.length : Int).toNat < a.size := by rw [Int.toNat_natCast]; omega
    rw [dif_pos hlt]
    have : a[(d.length : Int).toNat]'hlt = x := by
      rw [ByteArray.getElem_eq_getElem_data, ← Array.getElem_toList]
      simp [e]
    rw [this]
theorem stripf_ev (a : ByteArray) (n : Int) (ha : a.size ≤ 1000) (hn : n ≤ 9223372036854775807) : Ev (fun k => paths_Strip.f k a n) (tb (strip n.toNat a.data.toList)) := strip_ev 1000 a n ha (by omega) hn
theorem bases (a : ByteArray) (n : Nat) (ha : a.size ≤ 1000) (hn : n ≤ 1000) (hb : base (strip n a.data.toList) = base a.data.toList) :
    Ev (fun _ : Nat => (paths_Base.f (tb (strip n a.data.toList))).bind fun t150 => ((paths_Base.f a).bind fun t151 => (some (t150.toList == t151.toList)))) true := by
  have hsz : (tb (strip n a.data.toList)).size ≤ 1000 := by
    obtain ⟨u, e⟩ := strip_suffix n a.data.toList
    have := congrArg List.length e
    rw [List.length_append, ← sz] at this
    rw [sz, tb_data]; omega
  refine Ev.bindS (base_eq _ (by omega)) ?_
  refine Ev.bindS (base_eq _ (by omega)) ?_
  rw [tb_data, hb, beq_self_eq_true]
  exact Ev.now _
theorem PathsStrip : patchworklaw3_PathsStrip.Pure := by
  intro a0 a1 a2 _ w1 w2
  refine Ev.rounds (g := fun k => patchworklaw3_PathsStrip.f k a0 a1 a2) ?_
  refine Ev.congr (fun k => by simp only [patchworklaw3_PathsStrip.f]; exact rfl) ?_
  refine Ev.bind paths_alive_ev ?_
  simp only [if_true]
  have stop : Ev (fun k => patchworklaw3_PathsStrip.j0 k a0 a1 a2 true true) true := by
    refine Ev.step (fun k => by simp only [patchworklaw3_PathsStrip.j0]; exact rfl) ?_
    exact Ev.now _
  by_cases h0 : (a0.size : Int) > 200
  · simp only [if_pos h0]; exact stop
  simp only [if_neg h0]
  by_cases h1 : a1 < 0
  · simp only [if_pos h1]; exact stop
  simp only [if_neg h1]
  by_cases h2 : a1 > 50
  · simp only [if_pos h2]; exact stop
  simp only [if_neg h2]
  by_cases h3 : a2 < 0
  · simp only [if_pos h3]; exact stop
  simp only [if_neg h3]
  by_cases h4 : a2 > 50
  · rw [decide_eq_true h4]; exact stop
  rw [decide_eq_false h4]
  obtain ⟨m, rfl⟩ := Int.eq_ofNat_of_zero_le (show 0 ≤ a1 by omega)
  obtain ⟨n, rfl⟩ := Int.eq_ofNat_of_zero_le (show 0 ≤ a2 by omega)
  obtain ⟨u, hu⟩ := strip_suffix m a0.data.toList
  have hx : (tb (strip m a0.data.toList)).size + u.length = a0.size := by
    have := congrArg List.length hu
    rw [List.length_append, ← sz] at this
    rw [sz, tb_data]; omega
  refine Ev.step (fun k => by simp only [patchworklaw3_PathsStrip.j0]; exact rfl) ?_
  simp only [Bool.false_eq_true, if_false]
  refine Ev.bind (stripf_ev _ _ (by omega) (by omega)) ?_
  refine Ev.bind (stripf_ev _ _ (by rw [Int.toNat_natCast]; omega) (by omega)) ?_
  rw [w64 (by omega) (by omega)]
  refine Ev.bind (stripf_ev _ _ (by omega) (by omega)) ?_
  have hadd : ((m : Int) + (n : Int)).toNat = m + n := by omega
  rw [hadd]
  simp only [Int.toNat_natCast, tb_data, strip_add, if_true]
  simp only [if_neg (show ¬ ((tb (strip m a0.data.toList)).size : Int) > (a0.size : Int) by omega)]
  have hw : wrap64 ((a0.size : Int) - ((tb (strip m a0.data.toList)).size : Int)) = (u.length : Int) := by rw [w64 (by omega) (by omega)]; omega
  rw [hw]
  simp only [if_pos (show (0 : Int) ≤ (u.length : Int) by omega), if_pos (show (u.length : Int) ≤ (a0.size : Int) by omega), Int.toNat_natCast]
  have he : ((a0.extract u.length a0.size).toList != (tb (strip m a0.data.toList)).toList) = false := by
    rw [Lib.toList_data, Lib.extract_to_end, tb_toList]
    have hd : a0.data.toList.drop u.length = strip m a0.data.toList := by
      have := congrArg (List.drop u.length) hu
      rw [List.drop_left] at this
      exact this
    rw [hd]
    simp
  rw [he]
  refine Ev.step (fun k => by simp only [patchworklaw3_PathsStrip.j1]; exact rfl) ?_
  simp only [Bool.false_eq_true, if_false]
  by_cases h5 : (a0.size : Int) > 0
  · simp only [if_pos h5]
    have hs1 : wrap64 ((a0.size : Int) - 1) = ((a0.size - 1 : Nat) : Int) := by rw [w64 (by omega) (by omega)]; omega
    rw [hs1]
    simp only [if_pos (show (0 : Int) ≤ ((a0.size - 1 : Nat) : Int) by omega), if_pos (show ((a0.size - 1 : Nat) : Int) < (a0.size : Int) by omega)]
    obtain ⟨d, x, e, hb⟩ := bt_last a0 (by omega)
    rw [hb]
    by_cases hx47 : (x.toNat : Int) = 47
    · simp only [if_pos hx47]; exact Ev.now _
    · simp only [if_neg hx47]
      exact bases a0 m (by omega) (by omega) (strip_base m _ ⟨d, x, e, fun h => hx47 (by rw [h]; rfl)⟩)
  · simp only [if_neg h5]
    have hnil : a0.data.toList = [] := List.eq_nil_of_length_eq_zero (by rw [← sz]; omega)
    refine bases a0 m (by omega) (by omega) ?_
    rw [hnil]
    cases m with
    | zero => rfl
    | succ m => rfl
end Go.Proofs.YthngeddaeoeimaaDoor.Pure
