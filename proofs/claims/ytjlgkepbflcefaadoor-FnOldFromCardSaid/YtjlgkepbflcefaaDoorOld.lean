/- Plain old requests: their bytes and what is read of them; no program in sight. No condition. -/
import Derived.Test.YtjlgkepbflcefaaDoorAddr
import Derived.Test.YtjlgkepbflcefaaDoorRT
namespace Go.Proofs.YtjlgkepbflcefaaDoor

/-- A request of the fourth version. -/
structure Od where
  cmd : Int
  to : Ad
  user : ByteArray
/-- No request. -/
def Od.none : Od := ⟨0, Ad.none, ⟨#[]⟩⟩
/-- A valid request. -/
def odV (x : Od) : Bool := inR x.cmd 1 2 && adV x.to && userV (sInts x.user) && (decide (x.to.kind = 3) || !decide (x.to.quad.take 3 = [0, 0, 0]))
theorem odV_true {x : Od} : odV x = true ↔ (1 ≤ x.cmd ∧ x.cmd ≤ 2) ∧ adV x.to = true ∧ userV (sInts x.user) = true ∧ (x.to.kind = 3 ∨ x.to.quad.take 3 ≠ [0, 0, 0]) := by
  unfold odV
  simp [inR_true, and_assoc]
/-- The four bytes that a request holds. -/
def odQ (x : Od) : List Int := if x.to.kind = 3 then [0, 0, 0, 1] else x.to.quad
/-- What stands behind the user. -/
def odN (x : Od) : List Int := if x.to.kind = 3 then sInts x.to.name ++ [0] else []
/-- The bytes of a request. -/
def odB (x : Od) : List Int := [4, x.cmd] ++ nb x.to.port 2 ++ odQ x ++ sInts x.user ++ [0] ++ odN x
/-- The bytes of a request, or nothing. -/
def odW (x : Od) : List Int × Bool := if odV x then (odB x, true) else ([], false)

/-- What stands ahead of the first 0. -/
def upTo0 (l : List Int) : List Int := l.takeWhile fun x => x != 0
theorem upTo0_le (l : List Int) : (upTo0 l).length ≤ l.length := by
  unfold upTo0
  exact (List.takeWhile_sublist _).length_le
theorem upTo0_zero (l : List Int) : upTo0 (0 :: l) = [] := rfl
theorem upTo0_cons {a : Int} (ha : a ≠ 0) (l : List Int) : upTo0 (a :: l) = a :: upTo0 l := by
  unfold upTo0
  rw [List.takeWhile_cons, if_pos (by simpa using ha)]
theorem upTo0_take (l : List Int) : l.take (upTo0 l).length = upTo0 l := by
  induction l with
  | nil => rfl
  | cons a l ih =>
    by_cases ha : a = 0
    · subst ha
      rfl
    · rw [upTo0_cons ha, List.length_cons, List.take_succ_cons, ih]
theorem upTo0_mem {l : List Int} {x : Int} (h : x ∈ upTo0 l) : x ≠ 0 := by
  induction l with
  | nil => cases h
  | cons a l ih =>
    by_cases ha : a = 0
    · subst ha
      cases h
    · rw [upTo0_cons ha] at h
      rcases List.mem_cons.1 h with rfl | h
      · exact ha
      · exact ih h
theorem drop_mid (u r : List Int) : (u ++ 0 :: r).drop (u.length + 1) = r := by
  induction u with
  | nil => rfl
  | cons a u ih => exact ih
theorem upTo0_split {u r : List Int} (h : ∀ x ∈ u, x ≠ 0) : upTo0 (u ++ 0 :: r) = u := by
  induction u with
  | nil => rfl
  | cons a u ih =>
    have ha := h a (by simp)
    unfold upTo0
    rw [List.cons_append, List.takeWhile_cons, if_pos (by simpa using ha)]
    congr 1
    exact ih fun x hx => h x (by simp [hx])
theorem upTo0_at {l : List Int} {j : Nat} {x : Int} (hj : j < (upTo0 l).length) (hx : l[j]? = some x) : x ≠ 0 := by
  have h1 : (l.take (upTo0 l).length)[j]? = some x := by rw [List.getElem?_take_of_lt hj]; exact hx
  rw [upTo0_take] at h1
  exact upTo0_mem (List.mem_of_getElem? h1)
theorem upTo0_hit {l : List Int} {x : Int} (hx : l[(upTo0 l).length]? = some x) : x = 0 := by
  induction l with
  | nil => cases hx
  | cons a l ih =>
    by_cases ha : a = 0
    · subst ha
      have e : upTo0 (0 :: l) = [] := rfl
      rw [e] at hx
      simpa using hx.symm
    · have e : upTo0 (a :: l) = a :: upTo0 l := by
        unfold upTo0
        rw [List.takeWhile_cons, if_pos (by simpa using ha)]
      rw [e] at hx
      exact ih (by simpa using hx)
theorem upTo0_all {l : List Int} (h : (upTo0 l).length = l.length) : upTo0 l = l := by
  have := upTo0_take l
  rw [h, List.take_length] at this
  exact this.symm
/-- Cut at the first 0. -/
def cut0 (l : List Int) : Option (List Int × List Int) := if (upTo0 l).length < l.length then some (upTo0 l, l.drop ((upTo0 l).length + 1)) else none
theorem cut0_at {u r : List Int} (h : ∀ x ∈ u, x ≠ 0) : cut0 (u ++ 0 :: r) = some (u, r) := by
  unfold cut0
  rw [upTo0_split h, if_pos (by simp)]
  congr 2
  exact drop_mid u r
theorem cut0_some {l u r : List Int} (h : cut0 l = some (u, r)) : l = u ++ 0 :: r ∧ ∀ x ∈ u, x ≠ 0 := by
  unfold cut0 at h
  split at h
  · rename_i hlt
    injection h with h
    injection h with h1 h2
    subst h1 h2
    refine ⟨?_, fun x hx => upTo0_mem hx⟩
    obtain ⟨y, hy⟩ : ∃ y, l[(upTo0 l).length]? = some y := ⟨_, List.getElem?_eq_getElem hlt⟩
    have h0 := upTo0_hit hy
    subst h0
    have e := List.take_append_drop (upTo0 l).length l
    rw [upTo0_take, List.drop_eq_getElem_cons hlt] at e
    rw [List.getElem?_eq_getElem hlt] at hy
    injection hy with hy
    rw [hy] at e
    exact e.symm
  · cases h
theorem cut0_none {l : List Int} (h : cut0 l = none) : upTo0 l = l := by
  unfold cut0 at h
  split at h
  · cases h
  · rename_i hlt
    exact upTo0_all (by have := upTo0_le l; omega)

/-- The request, by its eight first numbers, its user and its name. -/
def odX (c p0 p1 a b g d : Int) (u : List Int) (s : Option (List Int)) : Od :=
  match s with
  | some s => ⟨c, ⟨3, [], strOfNums s, numOf [p0, p1]⟩, strOfNums u⟩
  | none => ⟨c, ⟨1, [a, b, g, d], ⟨#[]⟩, numOf [p0, p1]⟩, strOfNums u⟩
/-- The request that bytes begin with. -/
def odO (zs : List Int) : Od × Nat × Bool :=
  match zs with
  | v :: c :: p0 :: p1 :: a :: b :: g :: d :: t =>
    if bv zs && v == 4 then
      match cut0 t with
      | none => (Od.none, 0, false)
      | some (u, r) =>
        if a = 0 ∧ b = 0 ∧ g = 0 then
          match cut0 r with
          | none => (Od.none, 0, false)
          | some (s, _) => if d = 1 ∧ odV (odX c p0 p1 a b g d u (some s)) = true then (odX c p0 p1 a b g d u (some s), 8 + u.length + 1 + s.length + 1, true) else (Od.none, 0, false)
        else if odV (odX c p0 p1 a b g d u none) = true then (odX c p0 p1 a b g d u none, 8 + u.length + 1, true) else (Od.none, 0, false)
    else (Od.none, 0, false)
  | _ => (Od.none, 0, false)

theorem userV_no0 {s : ByteArray} (h : userV (sInts s) = true) : ∀ x ∈ sInts s, x ≠ 0 := by
  intro x hx e
  unfold userV at h
  simp only [Bool.and_eq_true, List.all_eq_true] at h
  have := ldB_true.1 (h.2 x hx)
  omega
theorem nameV_no0 {s : ByteArray} (h : nameV (lets s) = true) : ∀ x ∈ sInts s, x ≠ 0 := by
  intro x hx e
  subst e
  obtain ⟨c, hc, h0⟩ := List.mem_map.1 hx
  have hc0 : c = 0 := UInt8.toNat_inj.1 (by simpa using h0)
  subst hc0
  have hm : (0 : UInt8) ∈ lets s := hc
  obtain ⟨h1, _⟩ := nameV_true.1 h
  have : ∃ p ∈ pieces 46 (lets s), (0 : UInt8) ∈ p := by
    rw [← join_pieces 46 (lets s)] at hm
    have key : ∀ ps : List (List UInt8), (0 : UInt8) ∈ Lib.join ps [46] → ∃ p ∈ ps, (0 : UInt8) ∈ p := by
      intro ps
      induction ps with
      | nil => intro h; simp [Lib.join_nil] at h
      | cons p ps ih =>
        intro h
        cases ps with
        | nil => rw [Lib.join_one] at h; exact ⟨p, by simp, h⟩
        | cons q qs =>
          rw [join_cons2] at h
          rcases List.mem_append.1 h with h | h
          · exact ⟨p, by simp, h⟩
          · rcases List.mem_cons.1 h with h | h
            · exact absurd h (by decide)
            · obtain ⟨x, hx, hx2⟩ := ih h
              exact ⟨x, List.mem_cons_of_mem _ hx, hx2⟩
    exact key _ hm
  obtain ⟨p, hp, hm⟩ := this
  have hv := h1 p hp
  unfold partV at hv
  simp only [Bool.and_eq_true, List.all_eq_true] at hv
  exact absurd (hv.2 0 hm) (by decide)
/-- A valid request is one of these two. -/
theorem odV_form {x : Od} (h : odV x = true) : ∃ p0 p1 : Int, nb x.to.port 2 = [p0, p1] ∧ numOf [p0, p1] = x.to.port ∧ (0 ≤ p0 ∧ p0 ≤ 255) ∧ (0 ≤ p1 ∧ p1 ≤ 255) ∧
    ((∃ a b g d : Int, x.to.quad = [a, b, g, d] ∧ ¬ (a = 0 ∧ b = 0 ∧ g = 0) ∧ x.to.kind = 1 ∧ x = odX x.cmd p0 p1 a b g d (sInts x.user) none ∧ odB x = 4 :: x.cmd :: p0 :: p1 :: a :: b :: g :: d :: (sInts x.user ++ [0])) ∨
     (x.to.kind = 3 ∧ x = odX x.cmd p0 p1 0 0 0 1 (sInts x.user) (some (sInts x.to.name)) ∧ odB x = 4 :: x.cmd :: p0 :: p1 :: 0 :: 0 :: 0 :: 1 :: (sInts x.user ++ 0 :: (sInts x.to.name ++ [0])))) := by
  obtain ⟨_, ha, hu, hk⟩ := odV_true.1 h
  obtain ⟨hp, hkind⟩ := adV_true.1 ha
  obtain ⟨p0, p1, hnb⟩ : ∃ p0 p1, nb x.to.port 2 = [p0, p1] := ⟨_, _, rfl⟩
  have hnum := numOf_port hp
  rw [hnb] at hnum
  have hb := nb_bytes 2 x.to.port
  rw [hnb] at hb
  refine ⟨p0, p1, hnb, hnum, hb p0 (by simp), hb p1 (by simp), ?_⟩
  obtain ⟨c, ⟨ki, q, s, p⟩, us⟩ := x
  simp only at hnb hnum hkind hk hp ha hu ⊢
  rcases hkind with ⟨rfl, hq, hs⟩ | ⟨rfl, hn, rfl⟩
  · obtain ⟨a, b, g, d, rfl, _⟩ := qv_four hq
    have := empty_of_size hs
    subst this
    refine .inl ⟨a, b, g, d, rfl, ?_, rfl, ?_, ?_⟩
    · rcases hk with hk | hk
      · cases hk
      · simpa using hk
    · unfold odX
      rw [hnum, strOfNums_sInts]
    · unfold odB odQ odN
      simp only
      rw [hnb]
      simp
  · refine .inr ⟨rfl, ?_, ?_⟩
    · unfold odX
      simp only
      rw [hnum, strOfNums_sInts, strOfNums_sInts]
    · unfold odB odQ odN
      simp only
      rw [hnb]
      simp
/-- What is behind a request does not matter. -/
theorem odO_bytes {x : Od} (h : odV x = true) (r : List Int) (hr : bv (odB x ++ r) = true) : odO (odB x ++ r) = (x, (odB x).length, true) := by
  obtain ⟨p0, p1, _, _, _, _, hf⟩ := odV_form h
  obtain ⟨_, ha, hu, _⟩ := odV_true.1 h
  have hu0 := userV_no0 hu
  rcases hf with ⟨a, b, g, d, _, hne, _, hx, hB⟩ | ⟨hk, hx, hB⟩
  · have hv := h
    rw [hx] at hv
    rw [hB] at hr
    rw [hB]
    simp only [List.cons_append, List.append_assoc, List.nil_append] at hr ⊢
    unfold odO
    simp only
    rw [hr, if_pos (by rfl), cut0_at hu0]
    simp only
    rw [if_neg hne, if_pos hv, ← hx]
    simp
    omega
  · have hn0 : ∀ y ∈ sInts x.to.name, y ≠ 0 := by
      obtain ⟨_, h | h⟩ := adV_true.1 ha
      · have := h.1; omega
      · exact nameV_no0 h.2.1
    have hv := h
    rw [hx] at hv
    rw [hB] at hr
    rw [hB]
    simp only [List.cons_append, List.append_assoc, List.nil_append] at hr ⊢
    unfold odO
    simp only
    rw [hr, if_pos (by rfl), cut0_at hu0]
    simp only
    rw [if_pos ⟨trivial, trivial, trivial⟩, cut0_at hn0]
    simp only
    rw [if_pos ⟨trivial, hv⟩, ← hx]
    simp
    omega
theorem sInts_inv {l : List Int} (h : ∀ x ∈ l, 0 ≤ x ∧ x ≤ 255) : sInts (strOfNums l) = l := sInts_strOfNums h
/-- What was read has just these bytes. -/
theorem odO_true {zs : List Int} {x : Od} {n : Nat} (h : odO zs = (x, n, true)) : odV x = true ∧ bv zs = true ∧ n = (odB x).length ∧ ∃ r, zs = odB x ++ r := by
  unfold odO at h
  split at h
  · rename_i v c p0 p1 a b g d t
    split at h
    · rename_i hc
      simp only [Bool.and_eq_true, beq_iff_eq] at hc
      obtain ⟨hb, rfl⟩ := hc
      have hbb := (bv_true.1 hb).2
      have hport : nb (numOf [p0, p1]) 2 = [p0, p1] := nb_numOf 2 _ rfl fun y hy => hbb y (by
        simp only [List.mem_cons, List.not_mem_nil, or_false] at hy
        rcases hy with rfl | rfl <;> simp)
      split at h
      · injection h with _ h
        injection h with _ h
        cases h
      · rename_i u r hcut
        obtain ⟨rfl, hu⟩ := cut0_some hcut
        have hus : sInts (strOfNums u) = u := sInts_strOfNums fun y hy => hbb y (by simp [hy])
        split at h
        · rename_i hz
          obtain ⟨rfl, rfl, rfl⟩ := hz
          split at h
          · injection h with _ h
            injection h with _ h
            cases h
          · rename_i s r2 hcut2
            obtain ⟨rfl, hs⟩ := cut0_some hcut2
            have hss : sInts (strOfNums s) = s := sInts_strOfNums fun y hy => hbb y (by simp [hy])
            split at h
            · rename_i hv
              obtain ⟨rfl, hv⟩ := hv
              injection h with h1 h
              injection h with h2 _
              subst h1 h2
              have eB : odB (odX c p0 p1 0 0 0 1 u (some s)) = 4 :: c :: p0 :: p1 :: 0 :: 0 :: 0 :: 1 :: (u ++ 0 :: (s ++ [0])) := by
                unfold odB odQ odN odX
                simp only
                rw [hport, hus, hss]
                simp
              refine ⟨hv, hb, ?_, r2, ?_⟩
              · rw [eB]; simp; omega
              · rw [eB]; simp
            · injection h with _ h
              injection h with _ h
              cases h
        · split at h
          · rename_i hv
            injection h with h1 h
            injection h with h2 _
            subst h1 h2
            have eB : odB (odX c p0 p1 a b g d u none) = 4 :: c :: p0 :: p1 :: a :: b :: g :: d :: (u ++ [0]) := by
              unfold odB odQ odN odX
              simp only
              rw [hport, hus]
              simp
            refine ⟨hv, hb, ?_, r, ?_⟩
            · rw [eB]; simp; omega
            · rw [eB]; simp
          · injection h with _ h
            injection h with _ h
            cases h
    · injection h with _ h
      injection h with _ h
      cases h
  · injection h with _ h
    injection h with _ h
    cases h
theorem odO_false {zs : List Int} {x : Od} {n : Nat} (h : odO zs = (x, n, false)) : x = Od.none ∧ n = 0 := by
  have key : ∀ (y : Od) (m : Nat), (Od.none, 0, false) = (y, m, false) → y = Od.none ∧ m = 0 := by
    intro y m e
    injection e with e1 e
    injection e with e2 _
    exact ⟨e1.symm, e2.symm⟩
  unfold odO at h
  repeat' split at h
  all_goals first | exact key _ _ h | (injection h with _ h; injection h with _ h; cases h)
theorem odV_sizes {x : Od} (h : odV x = true) : x.user.size ≤ 8 ∧ x.to.name.size ≤ 20 := by
  obtain ⟨_, ha, hu, _⟩ := odV_true.1 h
  refine ⟨?_, adV_name ha⟩
  unfold userV at hu
  simp only [Bool.and_eq_true, decide_eq_true_eq] at hu
  rw [sInts_length] at hu
  exact hu.1
theorem odB_length {x : Od} (h : odV x = true) : (odB x).length = 9 + x.user.size + if x.to.kind = 3 then x.to.name.size + 1 else 0 := by
  obtain ⟨p0, p1, _, _, _, _, hf⟩ := odV_form h
  rcases hf with ⟨a, b, g, d, _, _, hk, _, hB⟩ | ⟨hk, _, hB⟩
  · rw [hB, if_neg (by omega)]
    simp [sInts_length]
    omega
  · rw [hB, if_pos hk]
    simp [sInts_length]
    omega
theorem odB_size {x : Od} (h : odV x = true) : 9 ≤ (odB x).length ∧ (odB x).length ≤ 38 := by
  have hl := odB_length h
  have := odV_sizes h
  split at hl <;> omega
theorem odB_bytes {x : Od} (h : odV x = true) : ∀ y ∈ odB x, 0 ≤ y ∧ y ≤ 255 := by
  obtain ⟨hc, ha, _, _⟩ := odV_true.1 h
  intro y hy
  unfold odB odQ odN at hy
  simp only [List.mem_append] at hy
  rcases hy with ((((hy | hy) | hy) | hy) | hy) | hy
  · simp only [List.mem_cons, List.not_mem_nil, or_false] at hy; omega
  · exact nb_bytes 2 _ y hy
  · split at hy
    · simp at hy; omega
    · rename_i hk
      obtain ⟨_, h | h⟩ := adV_true.1 ha
      · exact (qv_true.1 h.2.1).2 y hy
      · exact absurd h.1 hk
  · exact sInts_bytes _ y hy
  · simp at hy; omega
  · split at hy
    · rcases List.mem_append.1 hy with hy | hy
      · exact sInts_bytes _ y hy
      · simp at hy; omega
    · cases hy
theorem odB_bv {x : Od} (h : odV x = true) : bv (odB x) = true := bv_true.2 ⟨by have := (odB_size h).2; omega, odB_bytes h⟩
/-- A part of a request is none. -/
theorem odO_cut {x : Od} (h : odV x = true) {k : Nat} (hk : k < (odB x).length) : odO ((odB x).take k) = (Od.none, 0, false) := by
  obtain ⟨y, n, b, hO⟩ : ∃ y n b, odO ((odB x).take k) = (y, n, b) := ⟨_, _, _, rfl⟩
  cases b with
  | false =>
    obtain ⟨rfl, rfl⟩ := odO_false hO
    exact hO
  | true =>
    exfalso
    obtain ⟨hv, hb, rfl, r, hr⟩ := odO_true hO
    have h1 := List.take_append_drop k (odB x)
    rw [hr] at h1
    have h2 := odO_bytes h [] (by simpa using odB_bv h)
    have h3 := odO_bytes hv (r ++ (odB x).drop k) (by rw [← List.append_assoc, h1]; exact odB_bv h)
    rw [← List.append_assoc, h1] at h3
    rw [List.append_nil, h3] at h2
    injection h2 with _ h2
    injection h2 with h2 _
    have h4 := congrArg List.length hr
    simp at h4
    omega
theorem odW_true {x : Od} {zs : List Int} (h : odW x = (zs, true)) : odV x = true ∧ zs = odB x := by
  unfold odW at h
  split at h
  · rename_i hv; exact ⟨hv, (Prod.mk.inj h).1.symm⟩
  · cases h
theorem odW_length {x : Od} {zs : List Int} {b : Bool} (h : odW x = (zs, b)) : zs.length ≤ 100 := by
  unfold odW at h
  split at h
  · next hv =>
    injection h with h _
    subst h
    have := odB_size hv
    omega
  · injection h with h _
    subst h
    simp

/-! ### The reader -/
/-- Letters up to a 0. -/
def rU (zs : List Int) (p : Nat) (f : Bool) : List Int × Nat × Bool := if f then ([], p, true) else match cut0 (zs.drop p) with
  | some (u, _) => (u, p + u.length + 1, false)
  | none => (zs.drop p, zs.length, true)
theorem rU_bad (zs : List Int) (p : Nat) : rU zs p true = ([], p, true) := rfl
theorem rU_ok {zs : List Int} {p : Nat} {f : Bool} {u : List Int} {p' : Nat} (h : rU zs p f = (u, p', false)) : f = false ∧ (∀ x ∈ u, x ≠ 0) ∧ p' = p + u.length + 1 ∧ zs.drop p = u ++ 0 :: zs.drop p' := by
  unfold rU at h
  split at h
  · injection h with _ h
    injection h with _ h
    cases h
  · rename_i hf
    split at h
    · rename_i v r hc
      injection h with h1 h
      injection h with h2 _
      subst h1 h2
      obtain ⟨h3, h4⟩ := cut0_some hc
      refine ⟨by simpa using hf, h4, rfl, ?_⟩
      rw [h3]
      congr 2
      have e : zs.drop (p + v.length + 1) = (zs.drop p).drop (v.length + 1) := by rw [List.drop_drop]; congr 1
      rw [e, h3, drop_mid]
    · injection h with _ h
      injection h with _ h
      cases h
theorem rU_at {zs : List Int} {p : Nat} {u r : List Int} (hu : ∀ x ∈ u, x ≠ 0) (h : zs.drop p = u ++ 0 :: r) : rU zs p false = (u, p + u.length + 1, false) := by
  unfold rU
  rw [if_neg (by decide), h, cut0_at hu]
/-- What a request that is read is, where it ends, and whether the reader has failed by then. -/
def RO (zs : List Int) (f : Bool) (x : Od) (p' : Nat) (f' : Bool) : Prop := ∃ v p1 f1 c p2 f2 t p3 f3 q p4 f4 u p5 f5, rT zs 0 f 1 = (v, p1, f1) ∧ rB zs p1 (f1 || !decide (v = [4])) = (c, p2, f2) ∧ rT zs p2 f2 2 = (t, p3, f3) ∧ rT zs p3 f3 4 = (q, p4, f4) ∧ rU zs p4 f4 = (u, p5, f5) ∧
  ((q = [0, 0, 0, 1] ∧ ∃ s, rU zs p5 f5 = (s, p', f') ∧ x = ⟨c, ⟨3, [], strOfNums s, numOf t⟩, strOfNums u⟩) ∨ (q ≠ [0, 0, 0, 1] ∧ p' = p5 ∧ f' = f5 ∧ x = ⟨c, ⟨1, q, ⟨#[]⟩, numOf t⟩, strOfNums u⟩))
theorem rT_false {zs : List Int} {p k : Nat} {f : Bool} {ys : List Int} {p' : Nat} (h : rT zs p f k = (ys, p', false)) : f = false ∧ p' = p + k ∧ zs.drop p = ys ++ zs.drop p' := by
  rcases rT_cases h with ⟨h1, h2, rfl, rfl, _⟩ | ⟨_, _, _, h4⟩
  · refine ⟨h1, rfl, ?_⟩
    have := List.take_append_drop k (zs.drop p)
    rw [List.drop_drop] at this
    exact this.symm
  · cases h4
theorem rT_true {zs : List Int} {p k : Nat} {ys r : List Int} (hl : ys.length = k) (h : zs.drop p = ys ++ r) (hp : p ≤ zs.length) : rT zs p false k = (ys, p + k, false) := by
  have hlen := congrArg List.length h
  simp at hlen
  rw [rT_ok (by omega), h]
  subst hl
  simp
/-- Reading a request's bytes gives the request. -/
theorem RO_of {y : Od} (hv : odV y = true) {r : List Int} {x : Od} {p : Nat} {f : Bool} (h : RO (odB y ++ r) false x p f) : x = y ∧ p = (odB y).length ∧ f = false := by
  obtain ⟨v, p1, f1, c, p2, f2, t, p3, f3, q, p4, f4, u, p5, f5, h1, h2, h3, h4, h5, h6⟩ := h
  obtain ⟨_, ha, hu, _⟩ := odV_true.1 hv
  have hu0 := userV_no0 hu
  have hlen := odB_length hv
  obtain ⟨q0, q1, _, _, _, _, hf⟩ := odV_form hv
  rcases hf with ⟨a, b, g, d, hq, hne, hk, hx, hB⟩ | ⟨hk, hx, hB⟩
  · rw [hB] at h1 h2 h3 h4 h5 h6
    simp only [List.cons_append, List.append_assoc, List.nil_append] at h1 h2 h3 h4 h5 h6
    rw [rT_true (k := 1) (ys := [4]) (r := y.cmd :: q0 :: q1 :: a :: b :: g :: d :: (sInts y.user ++ 0 :: r)) rfl rfl (by simp)] at h1
    injection h1 with e1 h1
    injection h1 with e2 e3
    subst e1 e2 e3
    rw [show (false || !decide ([(4 : Int)] = [4])) = false by rfl, rB_ok (x := y.cmd) rfl] at h2
    injection h2 with e1 h2
    injection h2 with e2 e3
    subst e1 e2 e3
    rw [rT_true (k := 2) (ys := [q0, q1]) (r := a :: b :: g :: d :: (sInts y.user ++ 0 :: r)) rfl rfl (by simp)] at h3
    injection h3 with e1 h3
    injection h3 with e2 e3
    subst e1 e2 e3
    rw [rT_true (k := 4) (ys := [a, b, g, d]) (r := (sInts y.user ++ 0 :: r)) rfl rfl (by simp)] at h4
    injection h4 with e1 h4
    injection h4 with e2 e3
    subst e1 e2 e3
    rw [rU_at (u := sInts y.user) (r := r) hu0 rfl] at h5
    injection h5 with e1 h5
    injection h5 with e2 e3
    subst e1 e2 e3
    rcases h6 with ⟨hq1, _⟩ | ⟨_, rfl, rfl, rfl⟩
    · exact absurd hq1 fun e => hne (by injection e with e1 e; injection e with e2 e; injection e with e3 e; exact ⟨e1, e2, e3⟩)
    · refine ⟨?_, ?_, rfl⟩
      · conv => rhs; rw [hx]
        rfl
      · rw [hlen, if_neg (by omega), sInts_length]
        omega
  · have hn0 : ∀ z ∈ sInts y.to.name, z ≠ 0 := by
      obtain ⟨_, h | h⟩ := adV_true.1 ha
      · have := h.1; omega
      · exact nameV_no0 h.2.1
    rw [hB] at h1 h2 h3 h4 h5 h6
    simp only [List.cons_append, List.append_assoc, List.nil_append] at h1 h2 h3 h4 h5 h6
    rw [rT_true (k := 1) (ys := [4]) (r := y.cmd :: q0 :: q1 :: 0 :: 0 :: 0 :: 1 :: (sInts y.user ++ 0 :: (sInts y.to.name ++ 0 :: r))) rfl rfl (by simp)] at h1
    injection h1 with e1 h1
    injection h1 with e2 e3
    subst e1 e2 e3
    rw [show (false || !decide ([(4 : Int)] = [4])) = false by rfl, rB_ok (x := y.cmd) rfl] at h2
    injection h2 with e1 h2
    injection h2 with e2 e3
    subst e1 e2 e3
    rw [rT_true (k := 2) (ys := [q0, q1]) (r := 0 :: 0 :: 0 :: 1 :: (sInts y.user ++ 0 :: (sInts y.to.name ++ 0 :: r))) rfl rfl (by simp)] at h3
    injection h3 with e1 h3
    injection h3 with e2 e3
    subst e1 e2 e3
    rw [rT_true (k := 4) (ys := [0, 0, 0, 1]) (r := (sInts y.user ++ 0 :: (sInts y.to.name ++ 0 :: r))) rfl rfl (by simp)] at h4
    injection h4 with e1 h4
    injection h4 with e2 e3
    subst e1 e2 e3
    rw [rU_at (u := sInts y.user) (r := sInts y.to.name ++ 0 :: r) hu0 rfl] at h5
    injection h5 with e1 h5
    injection h5 with e2 e3
    subst e1 e2 e3
    rcases h6 with ⟨_, s, h6, rfl⟩ | ⟨hq1, _⟩
    · rw [rU_at (u := sInts y.to.name) (r := r) hn0 (by
        rw [show 0 + 1 + 1 + 2 + 4 + (sInts y.user).length + 1 = (sInts y.user).length + 1 + 8 by omega]
        exact drop_mid _ _)] at h6
      injection h6 with e1 h6
      injection h6 with e2 e3
      subst e1 e2 e3
      refine ⟨?_, ?_, rfl⟩
      · conv => rhs; rw [hx]
        rfl
      · rw [hlen, if_pos hk, sInts_length, sInts_length]
        omega
    · exact absurd rfl hq1
/-- What is read without a fault, and is valid, stands there. -/
theorem RO_back {zs : List Int} {f : Bool} (hb : f = false → bv zs = true) {x : Od} {p : Nat} (h : RO zs f x p false) (hv : odV x = true) : bv zs = true ∧ ∃ r, zs = odB x ++ r := by
  obtain ⟨v, p1, f1, c, p2, f2, t, p3, f3, q, p4, f4, u, p5, f5, h1, h2, h3, h4, h5, h6⟩ := h
  have h5f : f5 = false := by
    rcases h6 with ⟨_, s, h6, _⟩ | ⟨_, _, e, _⟩
    · exact (rU_ok h6).1
    · exact e.symm
  subst h5f
  obtain ⟨rfl, hu, rfl, d5⟩ := rU_ok h5
  have l4 := rT_length h4
  obtain ⟨rfl, rfl, d4⟩ := rT_false h4
  have l3 := rT_length h3
  obtain ⟨rfl, rfl, d3⟩ := rT_false h3
  obtain ⟨f2', rfl, d2⟩ := rT_false (rB_take h2)
  simp only [Bool.or_eq_false_iff, Bool.not_eq_false', decide_eq_true_eq] at f2'
  obtain ⟨rfl, rfl⟩ := f2'
  obtain ⟨rfl, rfl, d1⟩ := rT_false h1
  have hbv := hb rfl
  have hbb := (bv_true.1 hbv).2
  obtain ⟨p0, q1, rfl⟩ : ∃ p0 q1, t = [p0, q1] := by
    match t, l3 with
    | [p0, q1], _ => exact ⟨p0, q1, rfl⟩
  rw [d2, d3, d4, d5] at d1
  have ezs : zs = 4 :: c :: p0 :: q1 :: (q ++ (u ++ 0 :: zs.drop (0 + 1 + 1 + 2 + 4 + u.length + 1))) := by simpa using d1
  have hmem : ∀ y, y ∈ 4 :: c :: p0 :: q1 :: (q ++ (u ++ 0 :: zs.drop (0 + 1 + 1 + 2 + 4 + u.length + 1))) → 0 ≤ y ∧ y ≤ 255 := fun y hy => hbb y (by rw [ezs]; exact hy)
  have hport : nb (numOf [p0, q1]) 2 = [p0, q1] := nb_numOf 2 _ rfl fun y hy => hmem y (by
    simp only [List.mem_cons, List.not_mem_nil, or_false] at hy
    rcases hy with rfl | rfl <;> simp)
  have hus : sInts (strOfNums u) = u := sInts_strOfNums fun y hy => hmem y (by simp [hy])
  refine ⟨hbv, ?_⟩
  rcases h6 with ⟨rfl, s, h6, rfl⟩ | ⟨_, rfl, _, rfl⟩
  · obtain ⟨_, hs, rfl, d6⟩ := rU_ok h6
    rw [d6] at ezs hmem
    have hss : sInts (strOfNums s) = s := sInts_strOfNums fun y hy => hmem y (by simp [hy])
    refine ⟨zs.drop (0 + 1 + 1 + 2 + 4 + u.length + 1 + s.length + 1), ezs.trans ?_⟩
    · unfold odB odQ odN
      simp only
      rw [hport, hus, hss]
      simp only [if_true, List.cons_append, List.nil_append, List.append_assoc]
  · refine ⟨zs.drop (0 + 1 + 1 + 2 + 4 + u.length + 1), ezs.trans ?_⟩
    · unfold odB odQ odN
      simp only
      rw [hport, hus]
      simp only [show ¬ ((1 : Int) = 3) by decide, if_false, List.cons_append, List.nil_append, List.append_assoc]
theorem RO_odO {zs : List Int} {x : Od} {p : Nat} {f : Bool} (h : RO zs (!bv zs) x p f) : odO zs = if f || !odV x then (Od.none, 0, false) else (x, p, true) := by
  by_cases hc : f = false ∧ odV x = true
  · obtain ⟨rfl, hv⟩ := hc
    rw [hv]
    obtain ⟨hb, r, hr⟩ := RO_back (by simp) h hv
    have h2 := h
    rw [hb] at h2
    subst hr
    obtain ⟨_, rfl, _⟩ := RO_of hv h2
    exact odO_bytes hv r hb
  · have hff : (f || !odV x) = true := by
      cases f <;> simp at hc ⊢
      exact hc
    rw [hff, if_pos rfl]
    obtain ⟨y, n, b, hO⟩ : ∃ y n b, odO zs = (y, n, b) := ⟨_, _, _, rfl⟩
    cases b with
    | false =>
      obtain ⟨rfl, rfl⟩ := odO_false hO
      exact hO
    | true =>
      exfalso
      obtain ⟨hv, hb, _, r, rfl⟩ := odO_true hO
      rw [hb] at h
      obtain ⟨rfl, _, rfl⟩ := RO_of hv h
      exact hc ⟨rfl, hv⟩
end Go.Proofs.YtjlgkepbflcefaaDoor
