-- Put together by mergex.py out of this workplace's texts.
import Derived.Deep.Slices
import Derived.SizedLaws
import Derived.Test.YtpepmmfhanaipaaGreatDoorJa
namespace Go.Proofs.YtpepmmfhanaipaaGreatDoor.Open
open Go.ChangeShapes Go.WideShapes Go.RowKit Go.Proofs.YtpepmmfhanaipaaGreatDoorW.PrintWords
structure Opens {α : Type} (P : Program) (t : TypeId) (d : Kd α) (inv : α → Prop) : Prop where
  sz : P.cellsOf t = d.sz
  go : ∀ {H : Type} {enc : TypeId × Value → H} {w : World} {base : Nat} {spare : Nat → Bool} {held : Bool} {n : Nat} {cs : List Value} {x : DataW H × List MemPlace},
    DataW.trod enc P w base spare held n t cs = some x → (∀ m ∈ x.1.weights P t, m ≤ reachBytes) → ∃ a : α, d.K w a cs ∧ inv a
theorem opens_int {P : Program} {t : TypeId} {k : IntKind} (ht : P.underlying t = some (.int k)) (hc : P.cellsOf t = 1) : Opens P t (Kd.int k) (fun a => (Lit.int k a).wf = true) :=
  ⟨hc, fun h _ => by
    obtain ⟨n, rfl, _, hw⟩ := DataW.trod_int ht h
    exact ⟨n, rfl, hw⟩⟩
theorem opens_string {P : Program} {t : TypeId} (ht : P.underlying t = some .string) (hc : P.cellsOf t = 1) : Opens P t Kd.string (fun s => s.size ≤ 140737488351232) :=
  ⟨hc, fun h hw => by
    obtain ⟨s, rfl, rfl, _⟩ := DataW.trod_string ht h
    refine ⟨s, rfl, ?_⟩
    have := hw s.data.toList.length (by simp [DataW.weights])
    simpa [reachBytes] using this⟩
theorem list_of {α : Type} {p : Nat → α → Prop} : ∀ n : Nat, (∀ i, i < n → ∃ x, p i x) → ∃ l : List α, l.length = n ∧ ∀ i x, l[i]? = some x → p i x
  | 0, _ => ⟨[], rfl, fun i x h => by simp at h⟩
  | n + 1, h => by
    obtain ⟨l, hl, hp⟩ := list_of n (fun i hi => h i (Nat.lt_succ_of_lt hi))
    obtain ⟨x, hx⟩ := h n (Nat.lt_succ_self n)
    refine ⟨l ++ [x], by simp [hl], fun i y hy => ?_⟩
    by_cases hi : i < l.length
    · rw [List.getElem?_append_left hi] at hy
      exact hp i y hy
    · rw [List.getElem?_append_right (by omega)] at hy
      have h0 : i - l.length = 0 := by
        by_cases h1 : i - l.length = 0
        · exact h1
        · rw [List.getElem?_eq_none (by simp; omega)] at hy
          cases hy
      rw [h0] at hy
      simp at hy
      subst hy
      have : i = n := by omega
      subst this
      exact hx
theorem weights_all {H : Type} {P : Program} {e : TypeId} : ∀ (l : List (DataW H)) (d : DataW H), d ∈ l → ∀ m ∈ d.weights P e, m ∈ DataW.weightsAll P e l
  | [], _, h, _, _ => by cases h
  | a :: r, d, h, m, hm => by
    simp only [DataW.weightsAll, List.mem_append]
    rcases List.mem_cons.1 h with rfl | h
    · exact Or.inl hm
    · exact Or.inr (weights_all r d h m hm)
theorem opens_slice {α : Type} {P : Program} {t e : TypeId} {d : Kd α} {inv : α → Prop} (ht : P.underlying t = some (.slice e)) (hc : P.cellsOf t = 1) (he : Opens P e d inv) {B : Nat} (hB : P.bytesOf e = B) :
    Opens P t (Kd.slice e d) (fun l => l.length * B ≤ 140737488351232 ∧ ∀ x ∈ l, inv x) :=
  ⟨hc, fun {H enc w base spare held n cs x} h hw => by
    rcases Go.Deep.open_slice ht h with ⟨rfl, _⟩ | ⟨a, len, cap, m, k, D, Pl, rfl, _, hl, hm, hmm, rfl, hx⟩
    · exact ⟨[], ⟨none, 0, rfl, Nat.le_refl _, Kd.C_nil d w⟩, by simp, by simp⟩
    · have hlm : len ≤ m := by rw [hmm]; split <;> omega
      have hwe : ∀ i, i < len → ∀ q ∈ (D i).weights P e, q ≤ reachBytes := fun i hi q hq => hw q (by
        simp only [DataW.weights, ht, List.mem_cons, List.mem_append]
        exact Or.inr (Or.inl (weights_all _ (D i) (List.mem_map.2 ⟨i, List.mem_range.2 hi, rfl⟩) q hq)))
      obtain ⟨l, hlen, hp⟩ := list_of (p := fun i (z : α) => inv z ∧ ∃ cs', w.cells? base (a.add (i * P.cellsOf e)) (P.cellsOf e) = some cs' ∧ d.K w z cs') len (fun i hi => by
        obtain ⟨cs', h1, h2⟩ := hx i (by omega)
        obtain ⟨z, hz, hi'⟩ := he.go h2 (hwe i hi)
        exact ⟨z, hi', cs', h1, hz⟩)
      have hsz : len * B ≤ 140737488351232 := by
        have z := hw _ (by simp only [DataW.weights, ht]; exact List.mem_cons_self)
        simp only [List.length_map, List.length_range] at z
        rw [hB] at z
        have z2 : (len + (m - len)) * B ≤ 140737488351232 := by simpa [reachBytes] using z
        exact Nat.le_trans (Nat.mul_le_mul_right _ (by omega)) z2
      refine ⟨l, ⟨some a, cap, by rw [hlen], by omega, rfl, by unfold maxLen at hm; omega, fun _ => ⟨a, rfl, fun j z hz => ?_⟩⟩, by rw [hlen]; exact hsz, fun z hz => ?_⟩
      · obtain ⟨_, cs', hc', hk⟩ := hp j z hz
        obtain ⟨_, hcl, hcc⟩ := World.cells?_some hc'
        refine ⟨cs', d.K_len hk, hk, fun i u hu => ?_⟩
        have hi : i < cs'.length := (List.getElem?_eq_some_iff.1 hu).1
        have := hcc i (by omega)
        rw [hu, Go.Deep.add_add, he.sz] at this
        exact this
      · obtain ⟨i, hi⟩ := List.getElem?_of_mem hz
        exact (hp i z hi).1⟩
structure OpensF {α : Type} (P : Program) (fs : List Field) (off : Nat) (d : Kd α) (inv : α → Prop) : Prop where
  go : ∀ {H : Type} {enc : TypeId × Value → H} {w : World} {base : Nat} {spare : Nat → Bool} {held : Bool} {n : Nat} {cs : List Value} {xs : List (DataW H × List MemPlace)},
    cs.length = off + d.sz → xs.length = fs.length → (∀ (i : Nat) (f : Field), fs[i]? = some f → DataW.trod enc P w base spare held n f.type ((cs.drop f.offset).take (P.cellsOf f.type)) = xs[i]?) →
    (∀ m ∈ DataW.weightsEach P (fs.map Field.type) (xs.map (·.1)), m ≤ reachBytes) → ∃ a : α, d.K w a (cs.drop off) ∧ inv a
theorem opensF_one {α : Type} {P : Program} {f : Field} {off : Nat} {t : TypeId} {d : Kd α} {inv : α → Prop} (hoff : f.offset = off) (hty : f.type = t) (h : Opens P t d inv) : OpensF P [f] off d inv :=
  ⟨fun {H enc w base spare held n cs xs} hl hx hg hw => by
    match xs, hx with
    | [x], _ =>
      have h0 := hg 0 f rfl
      rw [hoff, hty, h.sz, List.take_of_length_le (by rw [List.length_drop]; omega)] at h0
      exact h.go (by simpa using h0) (fun m hm => hw m (by simp only [List.map_cons, List.map_nil, DataW.weightsEach, List.append_nil, hty]; exact hm))⟩
theorem opensF_cons {α β : Type} {P : Program} {f : Field} {fs : List Field} {off : Nat} {t : TypeId} {d : Kd α} {d' : Kd β} {inv : α → Prop} {inv' : β → Prop} (hoff : f.offset = off) (hty : f.type = t) (h : Opens P t d inv) (h' : OpensF P fs (off + d.sz) d' inv') :
    OpensF P (f :: fs) off (Kd.pair d d') (fun p => inv p.1 ∧ inv' p.2) :=
  ⟨fun {H enc w base spare held n cs xs} hl hx hg hw => by
    match xs, hx with
    | x :: xs, hx =>
      have hl' : cs.length = off + d.sz + d'.sz := by rw [hl]; show off + (d.sz + d'.sz) = _; omega
      have h0 := hg 0 f rfl
      rw [hoff, hty, h.sz] at h0
      obtain ⟨a, ha, hi⟩ := h.go (x := x) (by simpa using h0) (fun m hm => hw m (by simp only [List.map_cons, DataW.weightsEach, List.mem_append, hty]; exact Or.inl hm))
      obtain ⟨b, hb, hi'⟩ := h'.go (xs := xs) hl' (by simpa using hx) (fun i g hgi => by simpa using hg (i + 1) g (by simpa using hgi)) (fun m hm => hw m (by simp only [List.map_cons, DataW.weightsEach, List.mem_append]; exact Or.inr hm))
      exact ⟨(a, b), ⟨(cs.drop off).take d.sz, cs.drop (off + d.sz), by rw [← List.drop_drop, List.take_append_drop], ha, hb⟩, hi, hi'⟩⟩
theorem opens_struct {α : Type} {P : Program} {t : TypeId} {fs : Array Field} {d : Kd α} {inv : α → Prop} (ht : P.underlying t = some (.struct fs)) (hc : P.cellsOf t = d.sz) (h : OpensF P fs.toList 0 d inv) : Opens P t d inv :=
  ⟨hc, fun {H enc w base spare held n cs x} hx hw => by
    obtain ⟨xs, k, _, rfl, hl, hxl, hg⟩ := DataW.trod_struct ht hx
    obtain ⟨a, ha, hi⟩ := h.go (cs := cs) (xs := xs) (by rw [hl, hc]; omega) (by simpa using hxl) (fun i f hf => hg i f (by simpa using hf)) (fun m hm => hw m (by simp only [DataW.weights, ht]; exact hm))
    exact ⟨a, by simpa using ha, hi⟩⟩
theorem opens_iso {α β : Type} {P : Program} {t : TypeId} {d : Kd α} {inv : α → Prop} (h : Opens P t d inv) (f : β → α) (g : α → β) (hfg : ∀ a, f (g a) = a) : Opens P t (Kd.iso d f) (fun b => inv (f b)) :=
  ⟨h.sz, fun {H enc w base spare held n cs x} hx hw => by
    obtain ⟨a, ha, hi⟩ := h.go hx hw
    exact ⟨g a, by show d.K w (f (g a)) cs; rw [hfg]; exact ha, by rw [hfg]; exact hi⟩⟩
theorem weights_of {H : Type} {P : Program} {ts : List TypeId} {ds : List (DataW H)} (h : (DataW.weightsEach P ts ds).all (· ≤ reachBytes) = true) {j : Nat} {t : TypeId} {d : DataW H} (ht : ts[j]? = some t) (hd : ds[j]? = some d) : ∀ m ∈ d.weights P t, m ≤ reachBytes := fun m hm => by
  have := List.all_eq_true.1 h m (DataW.weights_mem_each ht hd m hm)
  simpa using this
end Go.Proofs.YtpepmmfhanaipaaGreatDoor.Open
