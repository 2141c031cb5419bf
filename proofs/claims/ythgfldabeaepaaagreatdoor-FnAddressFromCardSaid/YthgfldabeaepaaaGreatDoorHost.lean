/- Plain texts: cut at a letter, decimals, names, four bytes; no program in sight. No condition. -/
import Derived.Test.YthgfldabeaepaaaGreatDoorPlain
import Derived.Lib.SplitLaws
import Derived.Lib.ItoaLen
import Derived.Lib.Atoi
import Derived.Lib.AtoiTie
import Derived.Lib.Join
import Derived.Lib.Strings
namespace Go.Proofs.YthgfldabeaepaaaGreatDoor

/-- The letters of a text. -/
abbrev lets (s : ByteArray) : List UInt8 := s.data.toList
theorem lets_length (s : ByteArray) : (lets s).length = s.size := by simp [lets]
theorem lets_inj {s t : ByteArray} (h : lets s = lets t) : s = t := by
  obtain ⟨d⟩ := s
  obtain ⟨e⟩ := t
  exact congrArg ByteArray.mk (Array.toList_inj.1 h)

theorem lets_append (s t : ByteArray) : lets (s ++ t) = lets s ++ lets t := by simp [lets]
theorem text_toList (s : ByteArray) : s.toList = lets s := by
  have := Lib.extract_toList s 0 s.size
  rw [List.drop_zero, Nat.sub_zero, List.take_of_length_le (by simp)] at this
  rwa [ByteArray.extract_zero_size] at this
theorem text_beq (s t : ByteArray) : (s == t) = decide (s = t) := by
  obtain ⟨a⟩ := s
  obtain ⟨b⟩ := t
  show (a == b) = _
  rw [Bool.eq_iff_iff]
  simp
theorem text_ne {s t : ByteArray} (h : s ≠ t) : (s == t) = false := by rw [text_beq, decide_eq_false h]
theorem text_eq (s : ByteArray) : (s == s) = true := by rw [text_beq, decide_eq_true rfl]

/-! ### Cut at a letter -/
/-- A text, cut at each c. -/
def pieces (c : UInt8) : List UInt8 → List (List UInt8)
  | [] => [[]]
  | b :: r => if b = c then [] :: pieces c r else match pieces c r with
    | [] => [[b]]
    | p :: ps => (b :: p) :: ps

theorem pieces_ne (c : UInt8) (l : List UInt8) : pieces c l ≠ [] := by
  cases l with
  | nil => simp [pieces]
  | cons b r =>
    unfold pieces
    split
    · simp
    · split <;> simp
theorem pieces_same (c : UInt8) (r : List UInt8) : pieces c (c :: r) = [] :: pieces c r := by rw [pieces, if_pos rfl]
theorem pieces_other {c b : UInt8} (h : b ≠ c) {r p : List UInt8} {ps : List (List UInt8)} (hr : pieces c r = p :: ps) : pieces c (b :: r) = (b :: p) :: ps := by
  rw [pieces, if_neg h, hr]
theorem pieces_none {c : UInt8} : ∀ {l : List UInt8}, c ∉ l → pieces c l = [l]
  | [], _ => rfl
  | b :: r, h => by
    have h1 : b ≠ c := fun e => h (by simp [e])
    have h2 : c ∉ r := fun e => h (by simp [e])
    exact pieces_other h1 (pieces_none h2)
theorem pieces_append (c : UInt8) (r : List UInt8) : ∀ l : List UInt8, pieces c (l ++ c :: r) = pieces c l ++ pieces c r
  | [] => by rw [List.nil_append, pieces_same]; rfl
  | b :: l => by
    by_cases h : b = c
    · subst h
      rw [List.cons_append, pieces_same, pieces_same, pieces_append b r l]
      rfl
    · obtain ⟨p, ps, hp⟩ : ∃ p ps, pieces c l = p :: ps := by
        cases hl : pieces c l with
        | nil => exact absurd hl (pieces_ne c l)
        | cons p ps => exact ⟨p, ps, rfl⟩
      have h2 : pieces c (l ++ c :: r) = p :: (ps ++ pieces c r) := by rw [pieces_append c r l, hp]; rfl
      rw [List.cons_append, pieces_other h h2, pieces_other h hp]
      rfl
theorem pieces_at {c : UInt8} {p r : List UInt8} (h : c ∉ p) : pieces c (p ++ c :: r) = p :: pieces c r := by
  rw [pieces_append, pieces_none h]
  rfl
theorem pieces_mem {c : UInt8} : ∀ {l p : List UInt8}, p ∈ pieces c l → c ∉ p
  | [], p, h => by
    have : p = [] := by simpa [pieces] using h
    subst this
    simp
  | b :: r, p, h => by
    by_cases hb : b = c
    · subst hb
      rw [pieces_same] at h
      rcases List.mem_cons.1 h with rfl | h
      · simp
      · exact pieces_mem h
    · obtain ⟨q, qs, hq⟩ : ∃ q qs, pieces c r = q :: qs := by
        cases hl : pieces c r with
        | nil => exact absurd hl (pieces_ne c r)
        | cons q qs => exact ⟨q, qs, rfl⟩
      rw [pieces_other hb hq] at h
      rcases List.mem_cons.1 h with rfl | h
      · have := pieces_mem (c := c) (l := r) (p := q) (by rw [hq]; simp)
        intro hm
        rcases List.mem_cons.1 hm with e | hm
        · exact hb e.symm
        · exact this hm
      · exact pieces_mem (l := r) (by rw [hq]; exact List.mem_cons_of_mem _ h)
theorem piece_length {c : UInt8} : ∀ {l p : List UInt8}, p ∈ pieces c l → p.length ≤ l.length
  | [], p, h => by
    have : p = [] := by simpa [pieces] using h
    subst this
    simp
  | b :: r, p, h => by
    by_cases hb : b = c
    · subst hb
      rw [pieces_same] at h
      rcases List.mem_cons.1 h with rfl | h
      · simp
      · have := piece_length h
        simp
        omega
    · obtain ⟨q, qs, hq⟩ : ∃ q qs, pieces c r = q :: qs := by
        cases hl : pieces c r with
        | nil => exact absurd hl (pieces_ne c r)
        | cons q qs => exact ⟨q, qs, rfl⟩
      rw [pieces_other hb hq] at h
      rcases List.mem_cons.1 h with rfl | h
      · have := piece_length (c := c) (l := r) (p := q) (by rw [hq]; simp)
        simpa using this
      · have := piece_length (l := r) (by rw [hq]; exact List.mem_cons_of_mem _ h)
        simp
        omega
theorem join_cons2 (x y : List UInt8) (ys : List (List UInt8)) (c : UInt8) : Lib.join (x :: y :: ys) [c] = x ++ c :: Lib.join (y :: ys) [c] := by
  rw [Lib.join_cons, Lib.join_cons]
  simp [Lib.joinTail]
theorem join_pieces (c : UInt8) : ∀ l : List UInt8, Lib.join (pieces c l) [c] = l
  | [] => by simp [pieces, Lib.join_one]
  | b :: r => by
    have ih := join_pieces c r
    obtain ⟨q, qs, hq⟩ : ∃ q qs, pieces c r = q :: qs := by
      cases hl : pieces c r with
      | nil => exact absurd hl (pieces_ne c r)
      | cons q qs => exact ⟨q, qs, rfl⟩
    rw [hq] at ih
    by_cases hb : b = c
    · subst hb
      rw [pieces_same, hq, join_cons2, ih]
      rfl
    · rw [pieces_other hb hq, Lib.join_cons]
      rw [Lib.join_cons] at ih
      rw [List.cons_append, ih]
theorem pieces_join {c : UInt8} : ∀ {ps : List (List UInt8)}, ps ≠ [] → (∀ p ∈ ps, c ∉ p) → pieces c (Lib.join ps [c]) = ps
  | [], h, _ => absurd rfl h
  | [p], _, h => by rw [Lib.join_one, pieces_none (h p (by simp))]
  | p :: q :: ps, _, h => by
    rw [join_cons2, pieces_at (h p (by simp)), pieces_join (by simp) fun x hx => h x (List.mem_cons_of_mem _ hx)]

theorem splitK_pieces (c : UInt8) : ∀ s : List UInt8, Lib.splitK [c] 0 (Lib.count s [c]) s = pieces c s
  | [] => by
    rw [Lib.count_miss (by simp [Lib.index])]
    rfl
  | b :: l => by
    have ih := splitK_pieces c l
    by_cases h : b = c
    · subst h
      have hix : Lib.index (b :: l) [b] = 0 := by rw [Lib.index]; simp [List.isPrefixOf]
      rw [Lib.count_cons_eq, Nat.add_comm, Lib.splitK, hix, pieces_same]
      simpa using ih
    · rw [Lib.count_cons_ne b c l h]
      have hp : ([c] : List UInt8).isPrefixOf (b :: l) = false := by simp [List.isPrefixOf, Ne.symm h]
      have hix : Lib.index (b :: l) [c] = if Lib.index l [c] == -1 then -1 else Lib.index l [c] + 1 := by rw [Lib.index, hp]; simp
      by_cases hm : Lib.index l [c] = -1
      · rw [Lib.count_miss hm] at ih ⊢
        have : pieces c l = [l] := ih.symm
        rw [pieces_other h this]
        rfl
      · have hge := Lib.index_ge l [c]
        obtain ⟨j, hj⟩ : ∃ j : Nat, Lib.index l [c] = j := ⟨(Lib.index l [c]).toNat, by omega⟩
        have hc := Lib.count_hit (s := l) (sub := [c]) (by simp) hj
        have hne : ¬ ((j : Int) == -1) = true := by rw [beq_iff_eq]; omega
        have hne2 : ¬ ((j : Int) + 1 == -1) = true := by rw [beq_iff_eq]; omega
        rw [hc, Nat.add_comm, Lib.splitK, hj, if_neg hne] at ih
        rw [hc, Nat.add_comm, Lib.splitK, hix, hj, if_neg hne, if_neg hne2, pieces_other h ih.symm]
        have e1 : ((j : Int) + 1).toNat + 0 = ((j : Int).toNat + 0) + 1 := by omega
        have e2 : ((j : Int) + 1).toNat + [c].length = ((j : Int).toNat + [c].length) + 1 := by omega
        rw [e1, e2, List.take_succ_cons, List.drop_succ_cons]
        rfl
theorem splitB_pieces (c : UInt8) (s : ByteArray) : (Lib.splitB ⟨#[c]⟩ 0 (Lib.countB s ⟨#[c]⟩) s).map (·.data.toList) = pieces c s.data.toList := by
  rw [Lib.splitB_data]
  exact splitK_pieces c s.data.toList

/-! ### Decimals -/
theorem decFrom_append : ∀ (l m : List UInt8) (acc : Nat), Lib.decFrom acc (l ++ m) = (Lib.decFrom acc l).bind fun a => Lib.decFrom a m
  | [], m, acc => rfl
  | b :: l, m, acc => by
    rw [List.cons_append, Lib.decFrom, Lib.decFrom]
    cases Lib.digitVal b with
    | none => rfl
    | some d => exact decFrom_append l m _
theorem digitVal_digit {d : Nat} (h : d < 10) : Lib.digitVal (UInt8.ofNat (48 + d)) = some d := by
  have e : (UInt8.ofNat (48 + d)).toNat = 48 + d := by rw [UInt8.toNat_ofNat']; omega
  unfold Lib.digitVal
  rw [e, if_pos (by omega)]
  congr 1
  omega
theorem decFrom_digits : ∀ (u : Nat), Lib.decFrom 0 (Lib.decDigits u) = some u := by
  intro u
  induction u using Nat.strongRecOn with
  | ind u ih =>
    by_cases h : u < 10
    · rw [Lib.decDigits, dif_pos h, Lib.decFrom, digitVal_digit h]
      simp [Lib.decFrom]
    · rw [Lib.decDigits, dif_neg h, decFrom_append, ih (u / 10) (by omega)]
      simp only [Option.bind_some, Lib.decFrom, digitVal_digit (show u % 10 < 10 by omega)]
      congr 1
      omega
theorem decDigits_digit : ∀ (u : Nat) (b : UInt8), b ∈ Lib.decDigits u → 48 ≤ b.toNat ∧ b.toNat ≤ 57 := by
  intro u
  induction u using Nat.strongRecOn with
  | ind u ih =>
    intro b hb
    by_cases h : u < 10
    · rw [Lib.decDigits, dif_pos h] at hb
      have : b = UInt8.ofNat (48 + u) := by simpa using hb
      subst this
      rw [UInt8.toNat_ofNat']
      omega
    · rw [Lib.decDigits, dif_neg h] at hb
      rcases List.mem_append.1 hb with hb | hb
      · exact ih (u / 10) (by omega) b hb
      · have : b = UInt8.ofNat (48 + u % 10) := by simpa using hb
        subst this
        rw [UInt8.toNat_ofNat']
        omega
theorem decDigits_ne (u : Nat) : Lib.decDigits u ≠ [] := by
  intro h
  have := Lib.decDigits_length u
  have := Lib.nDigits_pos u
  rw [h] at *
  simp at *
  omega
theorem itoa_nat (u : Nat) : Lib.itoa (u : Int) = Lib.decDigits u := by unfold Lib.itoa; rw [if_neg (by omega)]; simp
/-- The number of a decimal numeral; none: it is none. -/
def decO (l : List UInt8) : Option Int := match Lib.atoiAll l with
  | .ok v => if Lib.itoa v = l then some v else none
  | _ => none
theorem decO_itoa {u : Nat} (h : u ≤ 99999) : decO (Lib.itoa (u : Int)) = some (u : Int) := by
  have hl : (Lib.decDigits u).length ≤ 18 := by
    rw [Lib.decDigits_length]
    by_cases h0 : u < 10
    · rw [Lib.nDigits_small h0]; omega
    · rw [Lib.nDigits_big h0]
      by_cases h1 : u / 10 < 10
      · rw [Lib.nDigits_small h1]; omega
      · rw [Lib.nDigits_big h1]
        by_cases h2 : u / 10 / 10 < 10
        · rw [Lib.nDigits_small h2]; omega
        · rw [Lib.nDigits_big h2]
          by_cases h3 : u / 10 / 10 / 10 < 10
          · rw [Lib.nDigits_small h3]; omega
          · rw [Lib.nDigits_big h3, Lib.nDigits_small (by omega)]; omega
  have hn : Lib.decNat (Lib.decDigits u) = some u := by
    unfold Lib.decNat
    rw [if_neg (by simpa using decDigits_ne u)]
    exact decFrom_digits u
  have ha : Lib.atoi (Lib.decDigits u) = some (u : Int) := by
    obtain ⟨b, r, hb⟩ : ∃ b r, Lib.decDigits u = b :: r := by
      cases hd : Lib.decDigits u with
      | nil => exact absurd hd (decDigits_ne u)
      | cons b r => exact ⟨b, r, rfl⟩
    have hbd := decDigits_digit u b (by rw [hb]; simp)
    have h45 : (b == 45) = false := by
      rw [beq_eq_false_iff_ne]
      rintro rfl
      exact absurd hbd.1 (by decide)
    have h43 : (b == 43) = false := by
      rw [beq_eq_false_iff_ne]
      rintro rfl
      exact absurd hbd.1 (by decide)
    rw [hb] at hn ⊢
    unfold Lib.atoi
    simp only [h45, h43, hn]
    rfl
  unfold decO
  rw [itoa_nat, Lib.atoiAll_short _ hl, ha]
  simp only [Lib.NumEnd.ofOption]
  rw [if_pos (itoa_nat u)]
theorem decO_some {l : List UInt8} {v : Int} (h : decO l = some v) : Lib.itoa v = l := by
  unfold decO at h
  cases ha : Lib.atoiAll l with
  | ok u =>
    rw [ha] at h
    by_cases hi : Lib.itoa u = l
    · simp only [hi, if_true] at h
      injection h with h
      rw [← h]
      exact hi
    · simp only [hi, if_false] at h
      cases h
  | «syntax» => rw [ha] at h; cases h
  | range => rw [ha] at h; cases h
/-- The number of one to five digits, or -1. -/
def num5 (l : List UInt8) : Int := if 1 ≤ l.length ∧ l.length ≤ 5 then match Lib.decFrom 0 l with
  | some m => (m : Int)
  | none => -1 else -1
theorem num5_itoa {u : Nat} (h : u ≤ 99999) : num5 (Lib.itoa (u : Int)) = (u : Int) := by
  have hl : 1 ≤ (Lib.decDigits u).length ∧ (Lib.decDigits u).length ≤ 5 := by
    rw [Lib.decDigits_length]
    refine ⟨Lib.nDigits_pos u, ?_⟩
    by_cases h0 : u < 10
    · rw [Lib.nDigits_small h0]; omega
    · rw [Lib.nDigits_big h0]
      by_cases h1 : u / 10 < 10
      · rw [Lib.nDigits_small h1]; omega
      · rw [Lib.nDigits_big h1]
        by_cases h2 : u / 10 / 10 < 10
        · rw [Lib.nDigits_small h2]; omega
        · rw [Lib.nDigits_big h2]
          by_cases h3 : u / 10 / 10 / 10 < 10
          · rw [Lib.nDigits_small h3]; omega
          · rw [Lib.nDigits_big h3, Lib.nDigits_small (by omega)]; omega
  unfold num5
  rw [itoa_nat, if_pos hl, decFrom_digits]
theorem itoa_inj {u v : Nat} (h : Lib.itoa (u : Int) = Lib.itoa (v : Int)) : u = v := by
  rw [itoa_nat, itoa_nat] at h
  have := decFrom_digits u
  rw [h, decFrom_digits v] at this
  simpa using this.symm

/-! ### Four bytes -/
/-- Four bytes as a text. -/
def quadT (q : List Int) : List UInt8 := Lib.join (q.map Lib.itoa) [46]
/-- Four bytes as a text, or nothing. -/
def quadS (q : List Int) : List UInt8 := if qv q then quadT q else []
theorem qv_true {q : List Int} : qv q = true ↔ q.length = 4 ∧ ∀ x ∈ q, 0 ≤ x ∧ x ≤ 255 := by
  unfold qv
  simp only [Bool.and_eq_true, decide_eq_true_eq, bv_true]
  exact ⟨fun ⟨h1, _, h3⟩ => ⟨h1, h3⟩, fun ⟨h1, h3⟩ => ⟨h1, by omega, h3⟩⟩
theorem qv_four {q : List Int} (h : qv q = true) : ∃ a b c d : Int, q = [a, b, c, d] ∧ (0 ≤ a ∧ a ≤ 255) ∧ (0 ≤ b ∧ b ≤ 255) ∧ (0 ≤ c ∧ c ≤ 255) ∧ (0 ≤ d ∧ d ≤ 255) := by
  obtain ⟨hl, hb⟩ := qv_true.1 h
  match q, hl with
  | [a, b, c, d], _ => exact ⟨a, b, c, d, rfl, hb a (by simp), hb b (by simp), hb c (by simp), hb d (by simp)⟩
theorem dot_itoa {x : Int} (h : 0 ≤ x) {c : UInt8} (hc : c.toNat < 48 ∨ 57 < c.toNat) : c ∉ Lib.itoa x := by
  obtain ⟨u, rfl⟩ := Int.eq_ofNat_of_zero_le h
  rw [itoa_nat]
  intro hm
  have := decDigits_digit u c hm
  omega
theorem quad_pieces {q : List Int} (h : qv q = true) : pieces 46 (quadT q) = q.map Lib.itoa := by
  refine pieces_join ?_ ?_
  · obtain ⟨a, b, c, d, rfl, _⟩ := qv_four h
    simp
  · intro p hp
    obtain ⟨x, hx, rfl⟩ := List.mem_map.1 hp
    exact dot_itoa ((qv_true.1 h).2 x hx).1 (by decide)
theorem quadT_ne {q : List Int} (h : qv q = true) : quadT q ≠ [] := by
  obtain ⟨a, b, c, d, rfl, _⟩ := qv_four h
  intro e
  unfold quadT at e
  rw [List.map_cons, List.map_cons, join_cons2] at e
  simp at e
/-- The four bytes of a text. -/
def quadF (l : List UInt8) : List Int × Bool := if qv ((pieces 46 l).map num5) && quadT ((pieces 46 l).map num5) == l then ((pieces 46 l).map num5, true) else ([], false)
theorem quadF_text {q : List Int} (h : qv q = true) : quadF (quadT q) = (q, true) := by
  have e : (pieces 46 (quadT q)).map num5 = q := by
    rw [quad_pieces h, List.map_map]
    refine (List.map_congr_left fun x hx => ?_).trans (List.map_id _)
    have hx := (qv_true.1 h).2 x hx
    obtain ⟨u, rfl⟩ := Int.eq_ofNat_of_zero_le hx.1
    exact num5_itoa (by omega)
  unfold quadF
  rw [e, h]
  simp
theorem quadF_true {l : List UInt8} {q : List Int} (h : quadF l = (q, true)) : qv q = true ∧ quadT q = l := by
  unfold quadF at h
  by_cases hc : (qv ((pieces 46 l).map num5) && quadT ((pieces 46 l).map num5) == l) = true
  · rw [if_pos hc] at h
    injection h with h1 _
    subst h1
    simp only [Bool.and_eq_true, beq_iff_eq] at hc
    exact hc
  · rw [if_neg hc] at h
    injection h with _ h2
    cases h2
theorem quadF_false {l : List UInt8} {q : List Int} (h : quadF l = (q, false)) : q = [] ∧ ∀ p, qv p = true → quadT p ≠ l := by
  have hq : q = [] := by
    unfold quadF at h
    by_cases hc : (qv ((pieces 46 l).map num5) && quadT ((pieces 46 l).map num5) == l) = true
    · rw [if_pos hc] at h
      injection h with _ h2
      cases h2
    · rw [if_neg hc] at h
      injection h with h1 _
      exact h1.symm
  refine ⟨hq, fun p hp e => ?_⟩
  have := quadF_text hp
  rw [e, h] at this
  injection this with _ h2
  cases h2
/-- The program's way: each part by itself. -/
theorem quadF_parts {l : List UInt8} {q : List Int} (h : (pieces 46 l).map decO = q.map some) : quadF l = if qv q then (q, true) else ([], false) := by
  have e : q.map Lib.itoa = pieces 46 l := by
    have hlen : q.length = (pieces 46 l).length := by have := congrArg List.length h; simpa using this.symm
    apply List.ext_getElem? 
    intro i
    have hi := congrArg (fun x => x[i]?) h
    simp only [List.getElem?_map] at hi ⊢
    cases hq : q[i]? with
    | none =>
      cases hp : (pieces 46 l)[i]? with
      | none => rfl
      | some p => rw [hq, hp] at hi; cases hi
    | some x =>
      cases hp : (pieces 46 l)[i]? with
      | none => rw [hq, hp] at hi; cases hi
      | some p =>
        rw [hq, hp] at hi
        simp only [Option.map_some, Option.some.injEq] at hi ⊢
        exact decO_some hi
  have el : quadT q = l := by unfold quadT; rw [e]; exact join_pieces 46 l
  cases hv : qv q with
  | true => rw [← el, quadF_text hv]; rfl
  | false =>
    cases hf : quadF l with
    | mk p b =>
      cases b with
      | false => rw [(quadF_false hf).1]; rfl
      | true =>
        exfalso
        obtain ⟨h1, h2⟩ := quadF_true hf
        have := quad_pieces h1
        rw [h2, ← e] at this
        have hlen : p.length = q.length := by have := congrArg List.length this; simpa using this.symm
        have : p = q := by
          apply List.ext_getElem hlen
          intro i hi1 hi2
          have hpi := (qv_true.1 h1).2 _ (List.getElem_mem hi1)
          have hi := congrArg (fun x => x[i]?) this
          simp only [List.getElem?_map, List.getElem?_eq_getElem hi1, List.getElem?_eq_getElem hi2, Option.map_some, Option.some.injEq] at hi
          obtain ⟨u, hu⟩ := Int.eq_ofNat_of_zero_le hpi.1
          have hz : (pieces 46 l).map decO = q.map some := h
          have hii := congrArg (fun x => x[i]?) hz
          rw [← e] at hii
          simp only [List.getElem?_map, List.getElem?_eq_getElem hi2, Option.map_some, Option.some.injEq] at hii
          rw [hi, hu, decO_itoa (by omega)] at hii
          rw [hu]
          simpa using hii
        rw [this, hv] at h1
        cases h1
/-- One part is no decimal: the text is not that of four bytes. -/
theorem quadF_part {l p : List UInt8} (hp : p ∈ pieces 46 l) (h : decO p = none) : quadF l = ([], false) := by
  cases hf : quadF l with
  | mk q b =>
    cases b with
    | false => rw [(quadF_false hf).1]
    | true =>
      exfalso
      obtain ⟨h1, h2⟩ := quadF_true hf
      have := quad_pieces h1
      rw [h2] at this
      rw [this] at hp
      obtain ⟨x, hx, rfl⟩ := List.mem_map.1 hp
      have hx := (qv_true.1 h1).2 x hx
      obtain ⟨u, rfl⟩ := Int.eq_ofNat_of_zero_le hx.1
      rw [decO_itoa (by omega)] at h
      cases h

/-! ### Names -/
/-- A small letter. -/
def lowU (c : UInt8) : Bool := decide (97 ≤ c.toNat) && decide (c.toNat ≤ 122)
/-- A small letter, a digit or '-'. -/
def letU (c : UInt8) : Bool := letB (c.toNat : Int)
/-- A part of a name. -/
def partV (p : List UInt8) : Bool := !p.isEmpty && p.all letU
/-- A valid name. -/
def nameV (l : List UInt8) : Bool := (pieces 46 l).all partV && decide (l.length ≤ 20) && lowU (((pieces 46 l).getLastD []).headD 0)
theorem nameV_true {l : List UInt8} : nameV l = true ↔ (∀ p ∈ pieces 46 l, partV p = true) ∧ l.length ≤ 20 ∧ lowU (((pieces 46 l).getLastD []).headD 0) = true := by
  simp [nameV, and_assoc]
theorem nameV_empty {l : List UInt8} (h : [] ∈ pieces 46 l) : nameV l = false := by
  rw [← Bool.not_eq_true, nameV_true]
  rintro ⟨h1, _⟩
  exact absurd (h1 _ h) (by simp [partV])
theorem nameV_behind (l : List UInt8) : nameV (l ++ [46]) = false := nameV_empty (by rw [pieces_append]; simp [pieces])
theorem nameV_before (l : List UInt8) : nameV (46 :: l) = false := nameV_empty (by rw [pieces_same]; simp)
theorem nameV_twice (a b : List UInt8) : nameV (a ++ 46 :: 46 :: b) = false := nameV_empty (by rw [pieces_append, pieces_same]; simp)
theorem getLastD_append {α : Type} (l : List α) (x d : α) : (l ++ [x]).getLastD d = x := by simp
theorem nameV_digit (l : List UInt8) {p : List UInt8} (hp : 46 ∉ p) (h : lowU (p.headD 0) = false) : nameV (l ++ 46 :: p) = false := by
  rw [← Bool.not_eq_true, nameV_true]
  rintro ⟨_, _, h3⟩
  rw [pieces_append, pieces_none hp, getLastD_append, h] at h3
  cases h3
theorem nameV_front (l : List UInt8) (h : nameV l = true) : nameV (97 :: 46 :: l) = decide (l.length + 2 ≤ 20) := by
  obtain ⟨h1, h2, h3⟩ := nameV_true.1 h
  have e : pieces 46 (97 :: 46 :: l) = [97] :: pieces 46 l := pieces_at (p := [97]) (by decide)
  have e2 : (pieces 46 (97 :: 46 :: l)).getLastD [] = (pieces 46 l).getLastD [] := by
    rw [e]
    cases hp : pieces 46 l with
    | nil => exact absurd hp (pieces_ne _ _)
    | cons p ps => simp
  rw [Bool.eq_iff_iff, nameV_true, e2, e]
  simp only [decide_eq_true_eq]
  constructor
  · rintro ⟨_, h4, _⟩
    simpa using h4
  · intro h4
    refine ⟨fun p hp => ?_, by simpa using h4, h3⟩
    rcases List.mem_cons.1 hp with rfl | hp
    · decide
    · exact h1 p hp
theorem nameV_size {l : List UInt8} (h : nameV l = true) : 1 ≤ l.length ∧ l.length ≤ 20 := by
  obtain ⟨h1, h2, _⟩ := nameV_true.1 h
  refine ⟨?_, h2⟩
  cases l with
  | nil => exact absurd (h1 [] (by simp [pieces])) (by decide)
  | cons b r => simp
/-- No points stand side by side, at the front or at the end. -/
theorem nameV_points {l : List UInt8} (h : nameV l = true) : (∀ i : Nat, l[i]? = some 46 → l[i + 1]? ≠ some 46) ∧ l[0]? ≠ some 46 ∧ l[l.length - 1]? ≠ some 46 := by
  refine ⟨fun i h1 h2 => ?_, fun h1 => ?_, fun h1 => ?_⟩
  · obtain ⟨hi, e1⟩ := List.getElem?_eq_some_iff.1 h1
    obtain ⟨hj, e2⟩ := List.getElem?_eq_some_iff.1 h2
    have e : l = l.take i ++ 46 :: 46 :: l.drop (i + 1 + 1) := by
      have := List.take_append_drop i l
      rw [List.drop_eq_getElem_cons hi, List.drop_eq_getElem_cons hj, e1, e2] at this
      exact this.symm
    rw [e, nameV_twice] at h
    cases h
  · cases l with
    | nil => cases h1
    | cons b r =>
      have : b = 46 := by simpa using h1
      subst this
      rw [nameV_before] at h
      cases h
  · rcases List.eq_nil_or_concat l with rfl | ⟨r, b, rfl⟩
    · cases h1
    · have : b = 46 := by simpa using h1
      subst this
      rw [List.concat_eq_append, nameV_behind] at h
      cases h
theorem nameV_quad {q : List Int} (h : qv q = true) : nameV (quadT q) = false := by
  rw [← Bool.not_eq_true, nameV_true]
  rintro ⟨_, _, h3⟩
  rw [quad_pieces h] at h3
  obtain ⟨a, b, c, d, rfl, _, _, _, hd⟩ := qv_four h
  obtain ⟨u, rfl⟩ := Int.eq_ofNat_of_zero_le hd.1
  have e : (List.map Lib.itoa [a, b, c, (u : Int)]).getLastD [] = Lib.itoa (u : Int) := rfl
  rw [e, itoa_nat] at h3
  cases hdg : Lib.decDigits u with
  | nil => exact absurd hdg (decDigits_ne u)
  | cons x xs =>
    have := decDigits_digit u x (by rw [hdg]; simp)
    rw [hdg] at h3
    have h4 : lowU x = true := h3
    unfold lowU at h4
    simp at h4
    omega
end Go.Proofs.YthgfldabeaepaaaGreatDoor
