/- Plain addresses: their texts and their bytes; no program in sight. No condition. -/
import Derived.Test.YthgfldabeaepaaaGreatDoorHost
import Derived.Test.YthgfldabeaepaaaGreatDoorNb
namespace Go.Proofs.YthgfldabeaepaaaGreatDoor

/-- An address. -/
structure Ad where
  kind : Int
  quad : List Int
  name : ByteArray
  port : Int
/-- No address. -/
def Ad.none : Ad := ⟨0, [], ⟨#[]⟩, 0⟩
theorem sInts_inj {s t : ByteArray} (h : sInts s = sInts t) : s = t := by rw [← strOfNums_sInts s, h, strOfNums_sInts]

/-- A valid address. -/
def adV (a : Ad) : Bool := inR a.port 0 65535 && if a.kind = 1 then qv a.quad && decide (a.name.size = 0) else if a.kind = 3 then nameV (lets a.name) && decide (a.quad.length = 0) else false
theorem adV_true {a : Ad} : adV a = true ↔ (0 ≤ a.port ∧ a.port ≤ 65535) ∧ ((a.kind = 1 ∧ qv a.quad = true ∧ a.name.size = 0) ∨ (a.kind = 3 ∧ nameV (lets a.name) = true ∧ a.quad = [])) := by
  unfold adV
  by_cases h1 : a.kind = 1
  · simp [h1, inR_true]
  · by_cases h3 : a.kind = 3
    · simp [h3, inR_true]
    · simp [h1, h3]
theorem empty_of_size {s : ByteArray} (h : s.size = 0) : s = ⟨#[]⟩ := by
  apply lets_inj
  apply List.eq_nil_of_length_eq_zero
  rw [lets_length, h]

/-- The host's text. -/
def hostT (a : Ad) : List UInt8 := if a.kind = 1 then quadT a.quad else lets a.name
/-- The text of an address. -/
def adT (a : Ad) : List UInt8 := hostT a ++ 58 :: Lib.itoa a.port
/-- The text of an address, or nothing. -/
def adS (a : Ad) : List UInt8 := if adV a then adT a else []
/-- The host's bytes. -/
def hostB (a : Ad) : List Int := if a.kind = 1 then a.quad else (a.name.size : Int) :: sInts a.name
/-- The bytes of an address. -/
def adB (a : Ad) : List Int := a.kind :: (hostB a ++ nb a.port 2)
/-- The bytes of an address, or nothing. -/
def adW (a : Ad) : List Int × Bool := if adV a then (adB a, true) else ([], false)


theorem adB_length {a : Ad} (h : adV a = true) : (adB a).length = if a.kind = 1 then 7 else a.name.size + 4 := by
  unfold adB hostB
  rcases (adV_true.1 h).2 with ⟨h1, h2, _⟩ | ⟨h3, _, _⟩
  · have := (qv_true.1 h2).1
    simp [h1, nb_length, this]
  · simp [h3, nb_length, sInts_length]
theorem adV_name {a : Ad} (h : adV a = true) : a.name.size ≤ 20 := by
  rcases (adV_true.1 h).2 with ⟨_, _, h0⟩ | ⟨_, hn, _⟩
  · omega
  · have := (nameV_size hn).2
    rwa [lets_length] at this
theorem adB_size {a : Ad} (h : adV a = true) : 7 ≤ (adB a).length + 3 ∧ (adB a).length ≤ 24 := by
  have := adV_name h
  rw [adB_length h]
  split <;> omega
theorem adB_bytes {a : Ad} (h : adV a = true) : ∀ x ∈ adB a, 0 ≤ x ∧ x ≤ 255 := by
  have hs := adV_name h
  intro x hx
  unfold adB hostB at hx
  rcases (adV_true.1 h).2 with ⟨h1, h2, _⟩ | ⟨h3, _, _⟩
  · rw [if_pos h1, h1] at hx
    rcases List.mem_cons.1 hx with rfl | hx
    · omega
    · rcases List.mem_append.1 hx with hx | hx
      · exact (qv_true.1 h2).2 x hx
      · exact nb_bytes 2 _ x hx
  · rw [if_neg (by omega), h3] at hx
    rcases List.mem_cons.1 hx with rfl | hx
    · omega
    · rcases List.mem_append.1 hx with hx | hx
      · rcases List.mem_cons.1 hx with rfl | hx
        · omega
        · exact sInts_bytes _ x hx
      · exact nb_bytes 2 _ x hx

/-- How many bytes an address has by its first bytes, or -1. -/
def adN (zs : List Int) : Int := if zs[0]? = some 1 then 7 else if zs[0]? = some 3 then match zs[1]? with
  | some k => 4 + k
  | none => -1 else -1
/-- The address that the first n bytes spell. -/
def adP (zs : List Int) (n : Nat) : Ad :=
  if zs[0]? = some 1 then ⟨1, (zs.take 5).drop 1, ⟨#[]⟩, numOf ((zs.take n).drop (n - 2))⟩ else ⟨3, [], strOfNums ((zs.take (n - 2)).drop 2), numOf ((zs.take n).drop (n - 2))⟩
/-- The address that bytes begin with. -/
def adO (zs : List Int) : Ad × Nat × Bool :=
  if bv zs && decide (0 ≤ adN zs) && decide (adN zs ≤ zs.length) && adV (adP zs (adN zs).toNat) then (adP zs (adN zs).toNat, (adN zs).toNat, true) else (Ad.none, 0, false)

theorem numOf_port {p : Int} (h : 0 ≤ p ∧ p ≤ 65535) : numOf (nb p 2) = p := numOf_nb 2 p h.1 (by omega)
theorem take_append_of {α : Type} {l r : List α} {n : Nat} (h : l.length = n) : (l ++ r).take n = l := by subst h; simp
theorem drop_append_of {α : Type} {l r : List α} {n : Nat} (h : l.length = n) : (l ++ r).drop n = r := by subst h; simp
/-- What is behind an address does not matter. -/
theorem adO_bytes {a : Ad} (h : adV a = true) (r : List Int) (hr : bv (adB a ++ r) = true) : adO (adB a ++ r) = (a, (adB a).length, true) := by
  have hlen := adB_length h
  obtain ⟨hp, hk⟩ := adV_true.1 h
  obtain ⟨k, q, s, p⟩ := a
  simp only at hp hk hlen
  rcases hk with ⟨rfl, h2, h0⟩ | ⟨rfl, hn, rfl⟩
  · have hs := empty_of_size h0
    subst hs
    have hq := (qv_true.1 h2).1
    have eb : adB ⟨1, q, ⟨#[]⟩, p⟩ = 1 :: (q ++ nb p 2) := rfl
    rw [if_pos rfl] at hlen
    have h0' : (adB ⟨1, q, ⟨#[]⟩, p⟩ ++ r)[0]? = some 1 := by rw [eb]; rfl
    have eN : adN (adB ⟨1, q, ⟨#[]⟩, p⟩ ++ r) = 7 := by unfold adN; rw [if_pos h0']
    have eP : adP (adB ⟨1, q, ⟨#[]⟩, p⟩ ++ r) 7 = ⟨1, q, ⟨#[]⟩, p⟩ := by
      unfold adP
      rw [if_pos h0']
      have e1 : ((adB ⟨1, q, ⟨#[]⟩, p⟩ ++ r).take 5).drop 1 = q := by
        rw [eb]
        simp [hq]
      have e2 : ((adB ⟨1, q, ⟨#[]⟩, p⟩ ++ r).take 7).drop (7 - 2) = nb p 2 := by
        rw [take_append_of hlen, eb, show (7 - 2) = 4 + 1 from rfl, List.drop_succ_cons]
        exact drop_append_of hq
      rw [e1, e2, numOf_port hp]
    unfold adO
    rw [eN, show (7 : Int).toNat = 7 from rfl, eP, h, hr, hlen, if_pos]
    simp [hlen]
    omega
  · have hne : ((3 : Int) = 1) = False := by decide
    have eb : adB ⟨3, [], s, p⟩ = 3 :: (s.size : Int) :: (sInts s ++ nb p 2) := rfl
    have hlen' : (adB ⟨3, [], s, p⟩).length = s.size + 4 := hlen
    have h0' : (adB ⟨3, [], s, p⟩ ++ r)[0]? = some 3 := by rw [eb]; rfl
    have h1' : (adB ⟨3, [], s, p⟩ ++ r)[1]? = some (s.size : Int) := by rw [eb]; rfl
    have eN : adN (adB ⟨3, [], s, p⟩ ++ r) = ((s.size + 4 : Nat) : Int) := by
      unfold adN
      rw [if_neg (by rw [h0']; decide), if_pos h0', h1']
      simp only
      omega
    have eP : adP (adB ⟨3, [], s, p⟩ ++ r) (s.size + 4) = ⟨3, [], s, p⟩ := by
      unfold adP
      rw [if_neg (by rw [h0']; decide), show s.size + 4 - 2 = s.size + 1 + 1 from rfl]
      have e1 : ((adB ⟨3, [], s, p⟩ ++ r).take (s.size + 1 + 1)).drop 2 = sInts s := by
        rw [eb, List.cons_append, List.cons_append, List.take_succ_cons, List.take_succ_cons, List.drop_succ_cons, List.drop_succ_cons, List.drop_zero, List.append_assoc]
        exact take_append_of (sInts_length s)
      have e2 : ((adB ⟨3, [], s, p⟩ ++ r).take (s.size + 4)).drop (s.size + 1 + 1) = nb p 2 := by
        rw [take_append_of hlen', eb, List.drop_succ_cons, List.drop_succ_cons]
        exact drop_append_of (sInts_length s)
      rw [e1, e2, numOf_port hp, strOfNums_sInts]
    unfold adO
    rw [eN, Int.toNat_natCast, eP, h, hr, hlen', if_pos]
    simp [hlen']
    omega
theorem bv_prefix {zs : List Int} {k : Nat} (h : bv zs = true) : bv (zs.take k) = true := by
  obtain ⟨h1, h2⟩ := bv_true.1 h
  exact bv_true.2 ⟨by simp; omega, fun x hx => h2 x (List.mem_of_mem_take hx)⟩
theorem adB_bv {a : Ad} (h : adV a = true) : bv (adB a) = true := bv_true.2 ⟨by have := (adB_size h).2; omega, adB_bytes h⟩
/-- A part of an address is none. -/
theorem adO_cut {a : Ad} (h : adV a = true) {k : Nat} (hk : k < (adB a).length) : adO ((adB a).take k) = (Ad.none, 0, false) := by
  unfold adO
  rw [if_neg]
  simp only [Bool.and_eq_true, decide_eq_true_eq]
  rintro ⟨⟨⟨_, h1⟩, h2⟩, _⟩
  have hl : ((adB a).take k).length = k := by simp; omega
  rw [hl] at h2
  have hlen := adB_length h
  have h0 : ∀ x, ((adB a).take k)[0]? = some x → x = a.kind := by
    intro x hx
    rw [List.getElem?_take] at hx
    split at hx
    · simpa [adB] using hx.symm
    · cases hx
  have hx1 : a.kind = 3 → ∀ x, ((adB a).take k)[1]? = some x → x = (a.name.size : Int) := by
    intro hk3 x hx
    rw [List.getElem?_take] at hx
    split at hx
    · simpa [adB, hostB, hk3] using hx.symm
    · cases hx
  unfold adN at h1 h2
  split at h2
  · rename_i hc
    have := h0 _ hc
    rw [if_pos this.symm] at hlen
    omega
  · split at h2
    · rename_i hc
      have h3 := h0 _ hc
      rw [if_neg (by omega)] at hlen
      split at h2
      · rename_i x hx
        have := hx1 h3.symm x hx
        omega
      · rename_i h4 h5 h6
        rw [if_neg h4, if_pos hc] at h1
        split at h1
        · rename_i y hy
          rw [hy] at h6
          cases h6
        · omega
    · rename_i h4 h5
      rw [if_neg h4, if_neg h5] at h1
      omega
/-- What was read has just these bytes. -/
theorem adO_true {zs : List Int} {a : Ad} {n : Nat} (h : adO zs = (a, n, true)) : adV a = true ∧ n ≤ zs.length ∧ adB a = zs.take n := by
  unfold adO at h
  by_cases hc : (bv zs && decide (0 ≤ adN zs) && decide (adN zs ≤ zs.length) && adV (adP zs (adN zs).toNat)) = true
  case neg =>
    rw [if_neg hc] at h
    injection h with _ h
    injection h with _ h
    cases h
  rw [if_pos hc] at h
  injection h with e1 h
  injection h with e2 _
  simp only [Bool.and_eq_true, decide_eq_true_eq] at hc
  obtain ⟨⟨⟨hb, h1⟩, h2⟩, hv⟩ := hc
  have hbb := (bv_true.1 hb).2
  subst e2
  rw [e1] at hv
  refine ⟨hv, by omega, ?_⟩
  have port : ∀ m : Nat, 2 ≤ m → m ≤ zs.length → nb (numOf ((zs.take m).drop (m - 2))) 2 = (zs.take m).drop (m - 2) := by
    intro m hm hml
    refine nb_numOf 2 _ (by simp; omega) fun x hx => hbb x (List.mem_of_mem_take (List.mem_of_mem_drop hx))
  have hN : adN zs = 7 ∧ zs[0]? = some 1 ∨ ∃ k, adN zs = 4 + k ∧ zs[0]? = some 3 ∧ zs[1]? = some k := by
    unfold adN at h1 ⊢
    split
    · rename_i hc; exact .inl ⟨rfl, hc⟩
    · split
      · rename_i h3 h4
        rw [if_neg h3, if_pos h4] at h1
        split
        · rename_i k hk; exact .inr ⟨k, rfl, h4, hk⟩
        · rename_i hk
          rw [hk] at h1
          simp only at h1
          omega
      · rename_i h3 h4
        rw [if_neg h3, if_neg h4] at h1
        omega
  rcases hN with ⟨h7, h0⟩ | ⟨k, h4, h0, hk⟩
  · rw [h7] at e1 h2 ⊢
    rw [show (7 : Int).toNat = 7 from rfl] at e1 ⊢
    have hl : 7 ≤ zs.length := by omega
    unfold adP at e1
    rw [if_pos h0] at e1
    subst e1
    unfold adB hostB
    simp only [if_true]
    rw [port 7 (by omega) hl]
    obtain ⟨x, r, rfl⟩ : ∃ x r, zs = x :: r := by
      cases zs with
      | nil => cases h0
      | cons x r => exact ⟨x, r, rfl⟩
    have : x = 1 := by simpa using h0
    subst this
    rw [List.take_succ_cons, List.drop_succ_cons, List.drop_zero, List.take_succ_cons, show (7 - 2) = 4 + 1 from rfl, List.drop_succ_cons]
    congr 1
    have : (r.take 6).take 4 = r.take 4 := by rw [List.take_take]; rfl
    rw [← this, List.take_append_drop]
  · have hk0 : 0 ≤ k := (hbb k (List.mem_of_getElem? hk)).1
    obtain ⟨m, rfl⟩ := Int.eq_ofNat_of_zero_le hk0
    rw [h4] at e1 h2 ⊢
    rw [show (4 + (m : Int)).toNat = m + 4 by omega] at e1 ⊢
    have hl : m + 4 ≤ zs.length := by omega
    unfold adP at e1
    rw [if_neg (by rw [h0]; decide)] at e1
    subst e1
    obtain ⟨x, y, r, rfl⟩ : ∃ x y r, zs = x :: y :: r := by
      match zs, hl with
      | x :: y :: r, _ => exact ⟨x, y, r, rfl⟩
    have hx : x = 3 := by simpa using h0
    have hy : y = (m : Int) := by simpa using hk
    subst hx hy
    have hl' : m + 2 ≤ r.length := by simp at hl; omega
    have en : ((List.take (m + 4 - 2) (3 :: (m : Int) :: r)).drop 2) = r.take m := by
      rw [show m + 4 - 2 = m + 1 + 1 from rfl, List.take_succ_cons, List.take_succ_cons, List.drop_succ_cons, List.drop_succ_cons, List.drop_zero]
    have hbr : ∀ x ∈ r.take m, 0 ≤ x ∧ x ≤ 255 := fun x hx => hbb x (List.mem_cons_of_mem _ (List.mem_cons_of_mem _ (List.mem_of_mem_take hx)))
    unfold adB hostB
    simp only
    rw [if_neg (by decide), port (m + 4) (by omega) hl, en, sInts_strOfNums hbr]
    have es : (strOfNums (r.take m)).size = m := by rw [← sInts_length, sInts_strOfNums hbr]; simp; omega
    rw [es, show m + 4 - 2 = m + 1 + 1 from rfl, show m + 4 = m + 2 + 1 + 1 from rfl, List.take_succ_cons, List.take_succ_cons, List.drop_succ_cons, List.drop_succ_cons]
    rw [List.cons_append]
    congr 2
    have : (r.take (m + 2)).take m = r.take m := by rw [List.take_take]; congr 1; omega
    rw [← this, List.take_append_drop]

/-! ### Texts -/
/-- The address of a text, by its host and its port. -/
def adH (host : List UInt8) (p : Int) : Ad := if (quadF host).2 then ⟨1, (quadF host).1, ⟨#[]⟩, p⟩ else ⟨3, [], ⟨host.toArray⟩, p⟩
/-- The address of a text. -/
def adF (l : List UInt8) : Ad × Bool := match pieces 58 l with
  | [h, t] => if adV (adH h (num5 t)) && adT (adH h (num5 t)) == l then (adH h (num5 t), true) else (Ad.none, false)
  | _ => (Ad.none, false)
theorem lets_mk (l : List UInt8) : lets ⟨l.toArray⟩ = l := by simp [lets]
theorem name_no58 {l : List UInt8} (h : nameV l = true) : 58 ∉ l := by
  intro hm
  obtain ⟨h1, _⟩ := nameV_true.1 h
  have : ∃ p ∈ pieces 46 l, (58 : UInt8) ∈ p := by
    rw [← join_pieces 46 l] at hm
    have key : ∀ ps : List (List UInt8), (58 : UInt8) ∈ Lib.join ps [46] → ∃ p ∈ ps, (58 : UInt8) ∈ p := by
      intro ps
      induction ps with
      | nil => intro h; simp [Lib.join_nil] at h
      | cons p ps ih =>
        intro h
        cases ps with
        | nil => rw [Lib.join_one] at h; exact ⟨p, by simp, h⟩
        | cons q qs =>
          rw [join_cons2] at h
          rcases List.mem_append.1 h with h | h
          · exact ⟨p, by simp, h⟩
          · rcases List.mem_cons.1 h with h | h
            · exact absurd h (by decide)
            · obtain ⟨x, hx, hx2⟩ := ih h
              exact ⟨x, List.mem_cons_of_mem _ hx, hx2⟩
    exact key _ hm
  obtain ⟨p, hp, hm⟩ := this
  have hv := h1 p hp
  unfold partV at hv
  simp only [Bool.and_eq_true, List.all_eq_true] at hv
  exact absurd (hv.2 58 hm) (by decide)
theorem quad_no58 {q : List Int} (h : qv q = true) : 58 ∉ quadT q := by
  intro hm
  have key : ∀ ps : List (List UInt8), (∀ p ∈ ps, (58 : UInt8) ∉ p) → (58 : UInt8) ∉ Lib.join ps [46] := by
    intro ps
    induction ps with
    | nil => intro _ h; simp [Lib.join_nil] at h
    | cons p ps ih =>
      intro hps h
      cases ps with
      | nil => rw [Lib.join_one] at h; exact hps p (by simp) h
      | cons q qs =>
        rw [join_cons2] at h
        rcases List.mem_append.1 h with h | h
        · exact hps p (by simp) h
        · rcases List.mem_cons.1 h with h | h
          · exact absurd h (by decide)
          · exact ih (fun x hx => hps x (List.mem_cons_of_mem _ hx)) h
  refine key _ (fun p hp => ?_) hm
  obtain ⟨x, hx, rfl⟩ := List.mem_map.1 hp
  exact dot_itoa ((qv_true.1 h).2 x hx).1 (by decide)
theorem host_no58 {a : Ad} (h : adV a = true) : 58 ∉ hostT a := by
  unfold hostT
  rcases (adV_true.1 h).2 with ⟨h1, h2, _⟩ | ⟨h3, h4, _⟩
  · rw [if_pos h1]; exact quad_no58 h2
  · rw [if_neg (by omega)]; exact name_no58 h4
theorem port_no58 {a : Ad} (h : adV a = true) : 58 ∉ Lib.itoa a.port := dot_itoa (adV_true.1 h).1.1 (by decide)
theorem adT_pieces {a : Ad} (h : adV a = true) : pieces 58 (adT a) = [hostT a, Lib.itoa a.port] := by
  unfold adT
  rw [pieces_at (host_no58 h), pieces_none (port_no58 h)]
theorem num5_port {p : Int} (h : 0 ≤ p ∧ p ≤ 65535) : num5 (Lib.itoa p) = p := by
  obtain ⟨u, rfl⟩ := Int.eq_ofNat_of_zero_le h.1
  exact num5_itoa (by omega)
theorem decO_port {p : Int} (h : 0 ≤ p ∧ p ≤ 65535) : decO (Lib.itoa p) = some p := by
  obtain ⟨u, rfl⟩ := Int.eq_ofNat_of_zero_le h.1
  exact decO_itoa (by omega)
theorem quadF_name {l : List UInt8} (h : nameV l = true) : quadF l = ([], false) := by
  cases hf : quadF l with
  | mk q b =>
    cases b with
    | false => rw [(quadF_false hf).1]
    | true =>
      exfalso
      obtain ⟨h1, h2⟩ := quadF_true hf
      rw [← h2, nameV_quad h1] at h
      cases h
theorem adH_of {a : Ad} (h : adV a = true) : adH (hostT a) a.port = a := by
  obtain ⟨k, q, s, p⟩ := a
  rcases (adV_true.1 h).2 with ⟨h1, h2, h0⟩ | ⟨h3, h4, h0⟩
  · simp only at h1 h2 h0
    subst h1
    have := empty_of_size h0
    subst this
    unfold adH hostT
    simp only [if_true]
    rw [quadF_text h2]
    rfl
  · simp only at h3 h4 h0
    subst h3 h0
    unfold adH hostT
    simp only [show ¬ ((3 : Int) = 1) by decide, if_false]
    rw [quadF_name h4]
    simp only [Bool.false_eq_true, if_false]
theorem adF_text {a : Ad} (h : adV a = true) : adF (adT a) = (a, true) := by
  unfold adF
  rw [adT_pieces h]
  simp only
  rw [num5_port (adV_true.1 h).1, adH_of h, h]
  simp
theorem adF_true {l : List UInt8} {a : Ad} (h : adF l = (a, true)) : adV a = true ∧ adT a = l := by
  unfold adF at h
  split at h
  · rename_i x t _
    by_cases hc : (adV (adH x (num5 t)) && adT (adH x (num5 t)) == l) = true
    · rw [if_pos hc] at h
      injection h with h1 _
      subst h1
      simpa using hc
    · rw [if_neg hc] at h
      injection h with _ h2
      cases h2
  · injection h with _ h2
    cases h2
theorem adF_false {l : List UInt8} {a : Ad} (h : adF l = (a, false)) : a = Ad.none ∧ ∀ b, adV b = true → adT b ≠ l := by
  refine ⟨?_, fun b hb e => ?_⟩
  · unfold adF at h
    split at h
    · rename_i x t _
      by_cases hc : (adV (adH x (num5 t)) && adT (adH x (num5 t)) == l) = true
      · rw [if_pos hc] at h
        injection h with _ h2
        cases h2
      · rw [if_neg hc] at h
        injection h with h1 _
        exact h1.symm
    · injection h with h1 _
      exact h1.symm
  · have := adF_text hb
    rw [e, h] at this
    injection this with _ h2
    cases h2
/-- The program's way: the host before the first ':', the port behind it. -/
theorem adF_cut {h t : List UInt8} (hh : 58 ∉ h) {p : Int} (ht : decO t = some p) : adF (h ++ 58 :: t) = if adV (adH h p) then (adH h p, true) else (Ad.none, false) := by
  have e := decO_some ht
  have hT : ∀ a : Ad, hostT (adH h p) = h := by
    intro _
    unfold adH
    cases hf : quadF h with
    | mk q b =>
      cases b with
      | true =>
        simp only [if_true]
        unfold hostT
        simp only [if_true]
        exact (quadF_true hf).2
      | false =>
        simp only [Bool.false_eq_true, if_false]
        unfold hostT
        simp
  have hp : (adH h p).port = p := by unfold adH; split <;> rfl
  have eT : adT (adH h p) = h ++ 58 :: t := by unfold adT; rw [hT Ad.none, hp, e]
  cases hv : adV (adH h p) with
  | true => rw [← eT, adF_text hv]; rfl
  | false =>
    cases hf : adF (h ++ 58 :: t) with
    | mk a b =>
      cases b with
      | false => rw [(adF_false hf).1]; rfl
      | true =>
        exfalso
        obtain ⟨h1, h2⟩ := adF_true hf
        have h3 := adT_pieces h1
        rw [h2, pieces_at hh] at h3
        injection h3 with h4 h5
        have h6 : t = Lib.itoa a.port := by
          have := join_pieces 58 t
          rw [h5, Lib.join_one] at this
          exact this.symm
        rw [h6, decO_port (adV_true.1 h1).1] at ht
        injection ht with ht
        rw [h4, ← ht, adH_of h1] at hv
        rw [h1] at hv
        cases hv
theorem adF_nothing {h t : List UInt8} (hh : 58 ∉ h) (ht : decO t = none) : adF (h ++ 58 :: t) = (Ad.none, false) := by
  cases hf : adF (h ++ 58 :: t) with
  | mk a b =>
    cases b with
    | false => rw [(adF_false hf).1]
    | true =>
      exfalso
      obtain ⟨h1, h2⟩ := adF_true hf
      have h3 := adT_pieces h1
      rw [h2, pieces_at hh] at h3
      injection h3 with h4 h5
      have h6 : t = Lib.itoa a.port := by
        have := join_pieces 58 t
        rw [h5, Lib.join_one] at this
        exact this.symm
      rw [h6, decO_port (adV_true.1 h1).1] at ht
      cases ht
theorem adF_none {l : List UInt8} (h : 58 ∉ l) : adF l = (Ad.none, false) := by
  unfold adF
  rw [pieces_none h]
/-- Behind or ahead of an address there is none. -/
theorem adF_behind {l r : List UInt8} {a : Ad} (h : adF l = (a, true)) : adF (l ++ 58 :: r) = (Ad.none, false) := by
  obtain ⟨h1, h2⟩ := adF_true h
  unfold adF
  rw [pieces_append, ← h2, adT_pieces h1]
  cases hp : pieces 58 r with
  | nil => exact absurd hp (pieces_ne _ _)
  | cons p ps => rfl
theorem adF_before {l : List UInt8} {a : Ad} (h : adF l = (a, true)) : adF (58 :: l) = (Ad.none, false) := by
  obtain ⟨h1, h2⟩ := adF_true h
  unfold adF
  rw [pieces_same, ← h2, adT_pieces h1]
end Go.Proofs.YthgfldabeaepaaaGreatDoor
