/- What the program's reader reads of an address is what the bytes begin with; no program in sight. No condition. -/
import Derived.Test.YtjlgkepbflcefaaDoorRAd
namespace Go.Proofs.YtjlgkepbflcefaaDoor
theorem rB_at {zs : List Int} {p : Nat} (h : p < zs.length) : rB zs p false = (zs[p], p + 1, false) := by
  unfold rB
  rw [rT_ok (by omega)]
  have : (zs.drop p).take 1 = [zs[p]] := by
    rw [List.drop_eq_getElem_cons h]
    rfl
  rw [this]
  rfl
theorem adO_bv {zs : List Int} {a : Ad} {n : Nat} (h : adO zs = (a, n, true)) : bv zs = true := by
  unfold adO at h
  split at h
  · next hc =>
    simp only [Bool.and_eq_true] at hc
    exact hc.1.1.1
  · simp at h
theorem part_drop (zs : List Int) (p k : Nat) : (zs.drop p).take k ++ zs.drop (p + k) = zs.drop p := by
  rw [← List.drop_drop]
  exact List.take_append_drop k (zs.drop p)
/-- What is read where an address stands at the beginning. -/
theorem RA_of {a : Ad} (hv : adV a = true) {r : List Int} (_hb : bv (adB a ++ r) = true) {x : Ad} {p : Nat} {f : Bool} (h : RA (adB a ++ r) 0 false x p f) : x = a ∧ p = (adB a).length ∧ f = false := by
  obtain ⟨k, p1, f1, h1, h⟩ := h
  have hlen := adB_length hv
  have hl : (adB a ++ r).length = (adB a).length + r.length := by simp
  have hz := adB_size hv
  have hport := (adV_true.1 hv).1
  have e1 := rB_at (zs := adB a ++ r) (p := 0) (by omega)
  have h0 : (adB a ++ r)[0]'(by omega) = a.kind := by simp [adB]
  rw [h0] at e1
  rw [e1] at h1
  simp only [Prod.mk.injEq] at h1
  obtain ⟨rfl, rfl, rfl⟩ := h1
  obtain ⟨_, hc | hc⟩ := adV_true.1 hv
  · obtain ⟨hk, hq, hs⟩ := hc
    have hql := (qv_true.1 hq).1
    have hB : adB a ++ r = [a.kind] ++ (a.quad ++ (nb a.port 2 ++ r)) := by simp [adB, hostB, hk]
    rcases h with ⟨_, q, p2, f2, d, h2, h3, rfl⟩ | ⟨h, _⟩ | ⟨h, _⟩
    · rw [if_pos hk] at hlen
      rw [rT_ok (by omega)] at h2
      simp only [Prod.mk.injEq] at h2
      obtain ⟨hq2, rfl, rfl⟩ := h2
      rw [rT_ok (by omega)] at h3
      simp only [Prod.mk.injEq] at h3
      obtain ⟨hd, rfl, rfl⟩ := h3
      rw [hB] at hq2 hd
      have e2 : (List.drop (0 + 1) ([a.kind] ++ (a.quad ++ (nb a.port 2 ++ r)))).take 4 = a.quad := by
        rw [show ([a.kind] ++ (a.quad ++ (nb a.port 2 ++ r))).drop (0 + 1) = a.quad ++ (nb a.port 2 ++ r) from rfl]
        exact take_append_of hql
      have e3 : (List.drop (0 + 1 + 4) ([a.kind] ++ (a.quad ++ (nb a.port 2 ++ r)))).take 2 = nb a.port 2 := by
        rw [show ([a.kind] ++ (a.quad ++ (nb a.port 2 ++ r))).drop (0 + 1 + 4) = (a.quad ++ (nb a.port 2 ++ r)).drop 4 from rfl, drop_append_of hql]
        exact take_append_of (nb_length _ _)
      rw [e2] at hq2
      rw [e3] at hd
      subst hq2 hd
      refine ⟨?_, by omega, rfl⟩
      rw [numOf_port hport, ← empty_of_size hs, ← hk]
    · omega
    · exact absurd hk h
  · obtain ⟨hk, hn, hq⟩ := hc
    have hname := adV_name hv
    have hne : ¬ a.kind = 1 := by omega
    have hB : adB a ++ r = [a.kind, (a.name.size : Int)] ++ (sInts a.name ++ (nb a.port 2 ++ r)) := by simp [adB, hostB, hne]
    rcases h with ⟨h, _⟩ | ⟨_, l, p2, f2, t, p3, f3, d, h2, h3, h4, rfl⟩ | ⟨_, h, _⟩
    · exact absurd h hne
    · rw [if_neg hne] at hlen
      have e2 := rB_at (zs := adB a ++ r) (p := 0 + 1) (by omega)
      have h1 : (adB a ++ r)[0 + 1]'(by omega) = (a.name.size : Int) := by simp [hB]
      rw [h1] at e2
      rw [e2] at h2
      simp only [Prod.mk.injEq] at h2
      obtain ⟨rfl, rfl, rfl⟩ := h2
      rw [Int.toNat_natCast, rT_ok (by omega)] at h3
      simp only [Prod.mk.injEq] at h3
      obtain ⟨ht, rfl, rfl⟩ := h3
      rw [rT_ok (by omega)] at h4
      simp only [Prod.mk.injEq] at h4
      obtain ⟨hd, rfl, rfl⟩ := h4
      rw [hB] at ht hd
      have e3 : (List.drop (0 + 1 + 1) ([a.kind, (a.name.size : Int)] ++ (sInts a.name ++ (nb a.port 2 ++ r)))).take a.name.size = sInts a.name := by
        rw [show ([a.kind, (a.name.size : Int)] ++ (sInts a.name ++ (nb a.port 2 ++ r))).drop (0 + 1 + 1) = sInts a.name ++ (nb a.port 2 ++ r) from rfl]
        exact take_append_of (sInts_length _)
      have e4 : (List.drop (0 + 1 + 1 + a.name.size) ([a.kind, (a.name.size : Int)] ++ (sInts a.name ++ (nb a.port 2 ++ r)))).take 2 = nb a.port 2 := by
        rw [show 0 + 1 + 1 + a.name.size = a.name.size + 2 by omega, show ([a.kind, (a.name.size : Int)] ++ (sInts a.name ++ (nb a.port 2 ++ r))).drop (a.name.size + 2) = (sInts a.name ++ (nb a.port 2 ++ r)).drop a.name.size from rfl, drop_append_of (sInts_length _)]
        exact take_append_of (nb_length _ _)
      rw [e3] at ht
      rw [e4] at hd
      subst ht hd
      refine ⟨?_, by omega, rfl⟩
      have hq0 : a.quad = [] := hq
      rw [numOf_port hport, strOfNums_sInts, ← hq0, ← hk]
    · exact absurd hk h
/-- What is read without a failure stands at the beginning. -/
theorem RA_back {zs : List Int} (hb : bv zs = true) {a : Ad} {p : Nat} (h : RA zs 0 false a p false) (hv : adV a = true) : ∃ r, zs = adB a ++ r := by
  have hby := (bv_true.1 hb).2
  obtain ⟨k, p1, f1, h1, h⟩ := h
  rcases rT_cases (rB_take h1) with ⟨_, hl1, e1, rfl, rfl⟩ | ⟨_, _, _, rfl⟩
  case inr =>
    rcases h with ⟨_, q, p2, f2, d, h2, h3, _⟩ | ⟨_, l, p2, f2, t, p3, f3, d, h2, h3, h4, _⟩ | ⟨_, _, d, h2, _⟩
    · obtain ⟨_, _, rfl⟩ := rT_bad h2
      have := (rT_bad h3).2.2
      cases this
    · obtain ⟨_, _, rfl⟩ := rT_bad (rB_take h2)
      obtain ⟨_, _, rfl⟩ := rT_bad h3
      have := (rT_bad h4).2.2
      cases this
    · have := (rT_bad h2).2.2
      cases this
  rcases h with ⟨rfl, q, p2, f2, d, h2, h3, rfl⟩ | ⟨rfl, l, p2, f2, t, p3, f3, d, h2, h3, h4, rfl⟩ | ⟨hk1, hk3, d, h2, rfl⟩
  · rcases rT_cases h2 with ⟨_, hl2, e2, rfl, rfl⟩ | ⟨_, _, _, rfl⟩
    case inr =>
      have := (rT_bad h3).2.2
      cases this
    rcases rT_cases h3 with ⟨_, hl3, e3, _, _⟩ | ⟨_, _, _, hf⟩
    case inr => cases hf
    have hd : nb (numOf d) 2 = d := nb_numOf 2 d (rT_length h3) (rT_bytes h3 (fun _ => hb))
    refine ⟨zs.drop 7, ?_⟩
    have : adB ⟨1, q, ⟨#[]⟩, numOf d⟩ = [1] ++ q ++ d := by simp [adB, hostB, hd]
    rw [this, e1, e2, e3]
    have s1 := part_drop zs 0 1
    have s2 := part_drop zs (0 + 1) 4
    have s3 := part_drop zs (0 + 1 + 4) 2
    rw [← s3] at s2
    rw [← s2] at s1
    simpa using s1.symm
  · rcases rT_cases (rB_take h2) with ⟨_, hl2, e2, rfl, rfl⟩ | ⟨_, _, _, rfl⟩
    case inr =>
      obtain ⟨_, _, rfl⟩ := rT_bad h3
      have := (rT_bad h4).2.2
      cases this
    rcases rT_cases h3 with ⟨_, hl3, e3, rfl, rfl⟩ | ⟨_, _, _, rfl⟩
    case inr =>
      have := (rT_bad h4).2.2
      cases this
    rcases rT_cases h4 with ⟨_, hl4, e4, _, _⟩ | ⟨_, _, _, hf⟩
    case inr => cases hf
    have hd : nb (numOf d) 2 = d := nb_numOf 2 d (rT_length h4) (rT_bytes h4 (fun _ => hb))
    have hl := rB_bytes h2 (fun _ => hb)
    have ht := rT_length h3
    have hts : sInts (strOfNums t) = t := sInts_strOfNums (rT_bytes h3 (fun _ => hb))
    have hsz : ((strOfNums t).size : Int) = l := by rw [strOfNums_size, ht]; omega
    refine ⟨zs.drop (0 + 1 + 1 + l.toNat + 2), ?_⟩
    have : adB ⟨3, [], strOfNums t, numOf d⟩ = [3] ++ [l] ++ t ++ d := by simp [adB, hostB, hd, hts, hsz]
    rw [this, e1, e2, e4]
    have s1 := part_drop zs 0 1
    have s2 := part_drop zs (0 + 1) 1
    have s3 := part_drop zs (0 + 1 + 1) l.toNat
    have s4 := part_drop zs (0 + 1 + 1 + l.toNat) 2
    rw [← s4] at s3
    rw [← s3] at s2
    rw [← s2] at s1
    rw [e3]
    simpa using s1.symm
  · exfalso
    obtain ⟨_, h | h⟩ := adV_true.1 hv
    · exact hk1 h.1
    · exact hk3 h.1
/-- What the reader reads is what the bytes begin with. -/
theorem RA_adO {zs : List Int} {a : Ad} {p : Nat} {f : Bool} (h : RA zs 0 (!bv zs) a p f) : adO zs = if f || !adV a then (Ad.none, 0, false) else (a, p, true) := by
  obtain ⟨x, n, b, ho⟩ : ∃ x n b, adO zs = (x, n, b) := ⟨_, _, _, rfl⟩
  cases b with
  | true =>
    obtain ⟨hv, hn, hB⟩ := adO_true ho
    have hb : bv zs = true := adO_bv ho
    have hz : zs = adB x ++ zs.drop n := by rw [hB, List.take_append_drop]
    rw [hb] at h
    have hb2 := hb
    rw [hz] at h hb2
    obtain ⟨rfl, rfl, rfl⟩ := RA_of hv hb2 h
    rw [ho, hv, hB]
    simp [hn]
  | false =>
    have hno : adO zs = (Ad.none, 0, false) := by
      unfold adO at ho ⊢
      split at ho
      · simp at ho
      · next hc => rw [if_neg hc]
    rw [hno]
    cases hf : (f || !adV a) with
    | true => rfl
    | false =>
      exfalso
      simp only [Bool.or_eq_false_iff, Bool.not_eq_false'] at hf
      obtain ⟨rfl, hv⟩ := hf
      cases hb : bv zs with
      | false =>
        rw [hb] at h
        obtain ⟨k, p1, f1, h1, h⟩ := h
        obtain ⟨_, _, rfl⟩ := rT_bad (rB_take h1)
        rcases h with ⟨_, q, p2, f2, d, h2, h3, _⟩ | ⟨_, l, p2, f2, t, p3, f3, d, h2, h3, h4, _⟩ | ⟨_, _, d, h2, _⟩
        · obtain ⟨_, _, rfl⟩ := rT_bad h2
          have := (rT_bad h3).2.2
          cases this
        · obtain ⟨_, _, rfl⟩ := rT_bad (rB_take h2)
          obtain ⟨_, _, rfl⟩ := rT_bad h3
          have := (rT_bad h4).2.2
          cases this
        · have := (rT_bad h2).2.2
          cases this
      | true =>
        rw [hb] at h
        obtain ⟨r, rfl⟩ := RA_back hb h hv
        rw [adO_bytes hv r hb] at hno
        simp at hno
end Go.Proofs.YtjlgkepbflcefaaDoor
