/-
  The statement StreamWhole over numbers and lists: whatever is lost, doubled or comes late, what is done is what was sent; where all comes it is done.
-/
import Derived.Test.YtbadcpaopdbgnaaPureStreamWholeA
namespace Go.Proofs.Ytbadcpaopdbgnaa.PureStreamWhole
open Go.RowKit Go.Proofs.Ytbadcpaopdbgnaa Go.Proofs.Ytbadcpaopdbgnaa.PStreamWhole Go.Proofs.YtbadcpaopdbgnaaW.PrintWords Go.Proofs.YtbadcpaopdbgnaaW.PrintLast Go.Proofs.YtbadcpaopdbgnaaW.PrintMore
/-! ### the stream as a whole: what arrives is a beginning of what was sent -/
theorem extract_list (D : ByteArray) (a b : Nat) : (D.extract a b).data.toList = (D.data.toList.drop a).take (b - a) := by
  rw [ByteArray.data_extract, Array.toList_extract]
theorem eq_of_list {x y : ByteArray} (h : x.data.toList = y.data.toList) : x = y := ByteArray.ext (Array.toList_inj.1 h)
/-- A receiver of D: so many bytes of its beginning are there. -/
structure Got (D : ByteArray) (rl rs : Int) (rd : ByteArray) (rdn : Bool) : Prop where
  pre : rd.data.toList = D.data.toList.take rd.size
  le : rd.size ≤ D.size
  kind : (rl = -1 ∧ rs = 0 ∧ rd.size = 0 ∧ rdn = false) ∨ (rl = (D.size : Int) ∧ rs = ((Crc.crc D.data.toList : Nat) : Int) ∧ rdn = decide (rd.size = D.size))
theorem Got.whole {D : ByteArray} {rl rs : Int} {rd : ByteArray} {rdn : Bool} (h : Got D rl rs rd rdn) (he : rd.size = D.size) : rd = D := by
  refine eq_of_list ?_
  rw [h.pre, he]
  exact List.take_of_length_le (by simp)
theorem Got.done {D : ByteArray} {rl rs : Int} {rd : ByteArray} {rdn : Bool} (h : Got D rl rs rd rdn) (hd : rdn = true) : rd = D ∧ rl = (D.size : Int) := by
  rcases h.kind with ⟨_, _, _, e⟩ | ⟨e1, _, e⟩
  · rw [e] at hd
    exact absurd hd Bool.false_ne_true
  · rw [e] at hd
    exact ⟨h.whole (of_decide_eq_true hd), e1⟩
theorem Got.hears {D : ByteArray} {rl rs : Int} {rd : ByteArray} {rdn : Bool} (h : Got D rl rs rd rdn) (h1 : 1 ≤ D.size) (h2 : D.size ≤ 32768) : hears rl rs rd rdn = true := by
  unfold PureStreamWhole.hears
  rcases h.kind with ⟨rfl, rfl, e, rfl⟩ | ⟨rfl, rfl, e⟩
  · rw [if_pos rfl]
    have hr : rd = (⟨#[]⟩ : ByteArray) := eq_of_list (by rw [h.pre, e]; rfl)
    rw [hr]
    simp
  · rw [if_neg (by omega)]
    have hle := h.le
    rw [decide_eq_true (by omega)]
    by_cases he : rd.size = D.size
    · have hr := h.whole he
      rw [decide_eq_true he] at e
      rw [e, hr]
      simp
    · rw [decide_eq_false he] at e
      rw [e]
      have : ((rd.size : Int) == (D.size : Int)) = false := beq_eq_false_iff_ne.2 (by omega)
      rw [this]
      rfl
theorem chunk_size (D : ByteArray) (off : Int) (h0 : 0 ≤ off) (h1 : off ≤ (D.size : Int)) : ((chunk D off).size : Int) = mn 48 ((D.size : Int) - off) := by
  unfold chunk
  rw [ByteArray.size_extract]
  unfold mn
  split <;> split <;> omega
theorem mayT_chunk (D : ByteArray) (off : Int) (h0 : 0 ≤ off) (h1 : off ≤ (D.size : Int)) (h2 : 1 ≤ D.size) (h3 : D.size ≤ 32768) : mayT off (D.size : Int) (chunk D off) = true := by
  unfold mayT
  have hc := chunk_size D off h0 h1
  refine decide_eq_true ?_
  rw [hc]
  have := mn_le 48 ((D.size : Int) - off)
  omega
theorem gotD_chunk {D : ByteArray} {rd : ByteArray} (off : Int) (h0 : 0 ≤ off) (h1 : off ≤ (D.size : Int)) (hp : rd.data.toList = D.data.toList.take rd.size) (hle : rd.size ≤ D.size) :
    (gotD rd off (chunk D off)).data.toList = D.data.toList.take (gotD rd off (chunk D off)).size ∧ (gotD rd off (chunk D off)).size ≤ D.size ∧ rd.size ≤ (gotD rd off (chunk D off)).size ∧
      (off ≤ (rd.size : Int) → mn (off + 48) (D.size : Int) ≤ ((gotD rd off (chunk D off)).size : Int)) := by
  have hc := chunk_size D off h0 h1
  have hz := gotD_size rd off (chunk D off)
  have hm := mn_le 48 ((D.size : Int) - off)
  cases hb : gotB rd off (chunk D off)
  · rw [hz.2 hb]
    refine ⟨hp, hle, Nat.le_refl _, fun ho => ?_⟩
    have hb' := of_decide_eq_false hb
    have : ¬ (off + ((chunk D off).size : Int) > (rd.size : Int)) := fun h => hb' ⟨ho, h⟩
    rw [hc] at this
    unfold mn at this ⊢
    split <;> split at this <;> omega
  · have hb' := of_decide_eq_true hb
    have hs := hz.1 hb
    have hg : gotD rd off (chunk D off) = rd ++ (chunk D off).extract ((rd.size : Int) - off).toNat (chunk D off).size := by
      unfold gotD
      rw [if_pos hb]
    refine ⟨?_, by omega, by omega, fun ho => ?_⟩
    · have e1 : (gotD rd off (chunk D off)).size = rd.size + ((chunk D off).size - ((rd.size : Int) - off).toNat) := by omega
      rw [e1, List.take_add, hg, ByteArray.data_append, Array.toList_append, extract_list, hp]
      have e2 : (D.data.toList.take rd.size).length = rd.size := by rw [List.length_take, Array.length_toList]; exact Nat.min_eq_left hle
      congr 1
      unfold chunk at e1 ⊢
      rw [extract_list, List.drop_take, List.drop_drop, List.take_take]
      have e3 : off.toNat + ((rd.size : Int) - off).toNat = rd.size := by omega
      rw [e3]
      congr 1
      rw [ByteArray.size_extract]
      unfold mn
      split <;> omega
    · rw [hs, hc]
      unfold mn
      split <;> split <;> omega
theorem take_got {D : ByteArray} {rl rs : Int} {rd : ByteArray} {rdn : Bool} (h : Got D rl rs rd rdn) (off : Int) (h0 : 0 ≤ off) (h1 : off ≤ (D.size : Int)) :
    ∃ rl' rs' rd' rdn' more, take rl rs rd rdn off (D.size : Int) ((Crc.crc D.data.toList : Nat) : Int) (chunk D off) = (rl', rs', rd', rdn', (rd'.size : Int), more, 0) ∧ Got D rl' rs' rd' rdn' ∧ rl' = (D.size : Int) ∧ rd.size ≤ rd'.size ∧
      (off ≤ (rd.size : Int) → mn (off + 48) (D.size : Int) ≤ (rd'.size : Int)) := by
  unfold take
  have hne : ¬ (rl ≠ -1 ∧ (rl ≠ (D.size : Int) ∨ rs ≠ ((Crc.crc D.data.toList : Nat) : Int))) := by
    rcases h.kind with ⟨e, _⟩ | ⟨e1, e2, _⟩
    · exact fun q => q.1 e
    · exact fun q => q.2.elim (fun x => x e1) (fun x => x e2)
  rw [if_neg hne]
  by_cases hd : rdn = true
  · rw [if_pos hd]
    have hw := h.done hd
    refine ⟨rl, rs, rd, rdn, false, by rw [hw.1, hw.2], h, hw.2, Nat.le_refl _, fun _ => ?_⟩
    rw [hw.1]
    exact (mn_le _ _).2
  · rw [if_neg hd]
    obtain ⟨g1, g2, g3, g4⟩ := gotD_chunk (rd := rd) off h0 h1 h.pre h.le
    generalize gotD rd off (chunk D off) = x at g1 g2 g3 g4 ⊢
    by_cases he : (x.size : Int) = (D.size : Int)
    · have hx : x = D := by
        refine eq_of_list ?_
        rw [g1, show x.size = D.size from by omega]
        exact List.take_of_length_le (by simp)
      rw [if_pos he, hx, if_pos rfl]
      refine ⟨(D.size : Int), _, D, true, _, rfl, ⟨by rw [List.take_of_length_le (by simp)], Nat.le_refl _, Or.inr ⟨rfl, rfl, by simp⟩⟩, rfl, h.le, fun _ => (mn_le _ _).2⟩
    · rw [if_neg he]
      have hd' : rdn = false := by
        cases rdn
        · rfl
        · exact absurd rfl hd
      exact ⟨(D.size : Int), _, x, rdn, _, rfl, ⟨g1, g2, Or.inr ⟨rfl, rfl, by rw [hd']; exact (decide_eq_false (by omega)).symm⟩⟩, rfl, g3, g4⟩
/-- Sender and receiver of D, on their way. -/
structure Way (D : ByteArray) (acked a w b rl rs : Int) (rd : ByteArray) (rdn : Bool) : Prop where
  got : Got D rl rs rd rdn
  a0 : 0 ≤ a
  eqa : acked = a
  le : a ≤ (rd.size : Int)
  w0 : 0 ≤ w
  w8 : w ≤ 8
  b1 : 1 ≤ b
  b8 : b ≤ 8
theorem Way.sends_ {D : ByteArray} {acked a w b rl rs : Int} {rd : ByteArray} {rdn : Bool} (h : Way D acked a w b rl rs rd rdn) (h2 : 1 ≤ D.size) (h3 : D.size ≤ 32768) : snd D a w b = true := by
  unfold PureStreamWhole.snd
  have := h.got.le
  have := h.le
  have := h.a0
  have := h.w0
  have := h.w8
  have := h.b1
  have := h.b8
  exact decide_eq_true (by omega)
theorem Way.acked_ {D : ByteArray} {acked a w b rl rs : Int} {rd : ByteArray} {rdn : Bool} (h : Way D acked a w b rl rs rd rdn) : ∃ a' w' b', ack D a w b (rd.size : Int) = (D, a', w', b') ∧ Way D (mx acked (rd.size : Int)) a' w' b' rl rs rd rdn ∧ a' = (rd.size : Int) ∧ (a < (rd.size : Int) → w' = 0 ∧ b' = 1) ∧ (a = (rd.size : Int) → w' = w ∧ b' = b) := by
  have hle := h.got.le
  have hl := h.le
  have ha := h.a0
  unfold PureStreamWhole.ack
  by_cases h1 : (rd.size : Int) > a
  · rw [if_pos ⟨h1, by omega⟩]
    refine ⟨_, 0, 1, rfl, ⟨h.got, by omega, ?_, by omega, by omega, by omega, by omega, by omega⟩, rfl, fun _ => ⟨rfl, rfl⟩, fun e => by omega⟩
    rw [h.eqa]
    unfold mx
    rw [if_pos h1]
  · rw [if_neg (fun e => h1 e.1)]
    refine ⟨a, w, b, rfl, ⟨h.got, h.a0, ?_, h.le, h.w0, h.w8, h.b1, h.b8⟩, by omega, fun e => by omega, fun _ => ⟨rfl, rfl⟩⟩
    rw [h.eqa]
    unfold mx
    rw [if_neg (by omega)]
theorem Way.took {D : ByteArray} {acked a w b rl rs : Int} {rd : ByteArray} {rdn : Bool} (h : Way D acked a w b rl rs rd rdn) (off : Int) (h0 : 0 ≤ off) (h1 : off ≤ (D.size : Int)) :
    ∃ rl' rs' rd' rdn' more, take rl rs rd rdn off (D.size : Int) ((Crc.crc D.data.toList : Nat) : Int) (chunk D off) = (rl', rs', rd', rdn', (rd'.size : Int), more, 0) ∧ Way D acked a w b rl' rs' rd' rdn' ∧ rd.size ≤ rd'.size ∧
      (off ≤ (rd.size : Int) → mn (off + 48) (D.size : Int) ≤ (rd'.size : Int)) := by
  obtain ⟨rl', rs', rd', rdn', more, e, g, _, g3, g4⟩ := take_got h.got off h0 h1
  have hl := h.le
  exact ⟨rl', rs', rd', rdn', more, e, ⟨g, h.a0, h.eqa, by omega, h.w0, h.w8, h.b1, h.b8⟩, g3, g4⟩
theorem offs_in {a n x : Int} (hx : x ∈ offs a n) : a ≤ x ∧ x < n := by
  unfold offs at hx
  simp only [List.mem_append] at hx
  rcases hx with (hx | hx) | hx
  · split at hx
    · have := List.mem_singleton.1 hx
      omega
    · cases hx
  · split at hx
    · have := List.mem_singleton.1 hx
      omega
    · cases hx
  · split at hx
    · have := List.mem_singleton.1 hx
      omega
    · cases hx
theorem tick_in {D : ByteArray} {a w b x : Int} (hx : x ∈ (tick D a w b).2.2.2.2) : a ≤ x ∧ x < (D.size : Int) := by
  unfold tick at hx
  split at hx
  · cases hx
  · split at hx
    · cases hx
    · exact offs_in hx
/-- Ticks until all is there, if nothing is lost. -/
def left (n : Nat) (a w : Int) : Int := w + ((n : Int) - a + 143) / 144
/-! ### the rounds -/
def EvT (f : Nat → Option Bool) : Prop := ∃ K, ∀ k, K ≤ k → f k = some true
theorem EvT.step {g f : Nat → Option Bool} (K0 : Nat) (h : ∀ k, K0 ≤ k → g (k + 1) = f k) (hf : EvT f) : EvT g := by
  obtain ⟨K, hf⟩ := hf
  refine ⟨K0 + K + 1, fun k hk => ?_⟩
  obtain ⟨m, rfl⟩ : ∃ m, k = m + 1 := ⟨k - 1, by omega⟩
  rw [h m (by omega)]
  exact hf m (by omega)
theorem EvT.of {f : Nat → Option Bool} (K : Nat) (h : ∀ k, K ≤ k → f k = some true) : EvT f := ⟨K, h⟩
section
variable (D : ByteArray) (y1 y2 y3 y4 y5 : Int) (y6 : ByteArray) (y7 : Bool) (L : List S38)
/-- The rounds' code, from each of its places on. -/
def at0 (acked x8 a w b rl rs : Int) (rd : ByteArray) (rdn : Bool) (k : Nat) : Option Bool := thresherlaw20_StreamWhole.l0 k ((Crc.crc D.data.toList : Nat) : Int) acked x8 D y1 y2 y3 y4 y5 y6 y7 L D a w b rl rs rd rdn
def at1 (x10 : List Int) (x12 x13 : Int) (acked x8 a w b rl rs : Int) (rd : ByteArray) (rdn : Bool) (k : Nat) : Option Bool := thresherlaw20_StreamWhole.l1 k ((Crc.crc D.data.toList : Nat) : Int) acked x8 x10 x12 x13 D y1 y2 y3 y4 y5 y6 y7 L D a w b rl rs rd rdn
def at2 (x10 : List Int) (x12 x13 : Int) (x14 : ByteArray) (x16 : Bool) (x17 x18 : Int) (acked x8 a w b rl rs : Int) (rd : ByteArray) (rdn : Bool) (k : Nat) : Option Bool := thresherlaw20_StreamWhole.l2 k ((Crc.crc D.data.toList : Nat) : Int) acked x8 x10 x12 x13 x14 x16 x17 x18 D y1 y2 y3 y4 y5 y6 y7 L D a w b rl rs rd rdn
/-- One chunk comes, and is acknowledged or not. -/
theorem comes (h2 : 1 ≤ D.size) (h3 : D.size ≤ 32768) (x10 : List Int) (x12 : Int) (j : Nat) (hj : j < x10.length) (hoff : 0 ≤ rd x10 (j : Int) ∧ rd x10 (j : Int) < (D.size : Int)) (x17 x18 : Int) (h18 : x18 < x17) (hw18 : wrap64 (x18 + 1) = x18 + 1)
    (x8 : Int) (hx8 : 0 ≤ x8) (acked a w b rl rs : Int) (rcd : ByteArray) (rdn : Bool) (hW : Way D acked a w b rl rs rcd rdn)
    (next : ∀ acked' a' w' b' rl' rs' rd' rdn', Way D acked' a' w' b' rl' rs' rd' rdn' → rcd.size ≤ rd'.size → (rd x10 (j : Int) ≤ (rcd.size : Int) → mn (rd x10 (j : Int) + 48) (D.size : Int) ≤ (rd'.size : Int)) →
      ((L.length : Int) ≤ x8 → a' = (rd'.size : Int) ∧ (a < (rd'.size : Int) → w' = 0 ∧ b' = 1) ∧ (a = (rd'.size : Int) → w' = w ∧ b' = b)) → EvT (at2 D y1 y2 y3 y4 y5 y6 y7 L x10 x12 (j : Int) (chunk D (rd x10 (j : Int))) false x17 (x18 + 1) acked' x8 a' w' b' rl' rs' rd' rdn')) :
    EvT (at2 D y1 y2 y3 y4 y5 y6 y7 L x10 x12 (j : Int) (chunk D (rd x10 (j : Int))) false x17 x18 acked x8 a w b rl rs rcd rdn) := by
  obtain ⟨rl', rs', rd', rdn', more, he, hW', hge, hpr⟩ := hW.took (rd x10 (j : Int)) hoff.1 (by omega)
  have hle' := hW'.got.le
  refine EvT.step 0 (f := fun k => thresherlaw20_StreamWhole.j9 k ((Crc.crc D.data.toList : Nat) : Int) acked x8 x10 x12 (j : Int) (chunk D (rd x10 (j : Int))) false x17 x18 true D y1 y2 y3 y4 y5 y6 y7 L D a w b rl rs rcd rdn) (fun k _ => ?_) ?_
  · unfold at2
    simp only [thresherlaw20_StreamWhole.l2]
    rw [if_pos h18]
    rfl
  refine EvT.step 331030 (f := fun k => thresherlaw20_StreamWhole.j10 k ((Crc.crc D.data.toList : Nat) : Int) acked x8 x10 x12 (j : Int) (chunk D (rd x10 (j : Int))) false x17 x18 (rd'.size : Int) false D y1 y2 y3 y4 y5 y6 y7 L D a w b rl' rs' rd' rdn') (fun k hk => ?_) ?_
  · obtain ⟨m, rfl⟩ : ∃ m, k = m + 5 := ⟨k - 5, by omega⟩
    simp only [thresherlaw20_StreamWhole.j9]
    rw [if_pos trivial, if_pos (show (0 : Int) ≤ (j : Int) from by omega), if_pos (show (j : Int) < (x10.length : Int) from by omega), take_eq m (by omega), hW.got.hears h2 h3, mayT_chunk D _ hoff.1 (by omega) h2 h3, if_pos (show (true && true) = true from rfl), he]
    simp only [Option.bind_some, thresherlaw20_num.f, if_true]
    rw [if_neg (show ¬ (rd'.size : Int) > (D.size : Int) from by omega)]
    by_cases hd : rdn' = true
    · rw [if_pos hd, (hW'.got.done hd).1, show (D.toList != D.toList) = false from by simp]
    · rw [if_neg hd]
  obtain ⟨a', w', b', hak, hWa, ha', hw1, hw2⟩ := hW'.acked_
  have yes : EvT (fun k => thresherlaw20_StreamWhole.j11 k ((Crc.crc D.data.toList : Nat) : Int) acked x8 x10 x12 (j : Int) (chunk D (rd x10 (j : Int))) false x17 x18 (rd'.size : Int) true D y1 y2 y3 y4 y5 y6 y7 L D a w b rl' rs' rd' rdn') := by
    refine EvT.step 0 (fun k _ => ?_) (next _ _ _ _ _ _ _ _ hWa hge hpr (fun _ => ⟨ha', hw1, hw2⟩))
    simp only [thresherlaw20_StreamWhole.j11]
    rw [if_pos trivial, ack_eq, if_pos (hW'.sends_ h2 h3), hak]
    simp only [Option.bind_some, thresherlaw20_num.f, if_true]
    rw [hw18]
    rfl
  by_cases h8 : (L.length : Int) ≤ x8
  · refine EvT.step 0 (fun k _ => ?_) yes
    simp only [thresherlaw20_StreamWhole.j10]
    rw [if_neg Bool.false_ne_true, if_pos (show x8 ≥ (L.length : Int) from h8)]
  · have no : EvT (fun k => thresherlaw20_StreamWhole.j11 k ((Crc.crc D.data.toList : Nat) : Int) acked x8 x10 x12 (j : Int) (chunk D (rd x10 (j : Int))) false x17 x18 (rd'.size : Int) false D y1 y2 y3 y4 y5 y6 y7 L D a w b rl' rs' rd' rdn') := by
      refine EvT.step 0 (fun k _ => ?_) (next _ _ _ _ _ _ _ _ hW' hge hpr (fun h => absurd h h8))
      simp only [thresherlaw20_StreamWhole.j11]
      rw [if_neg Bool.false_ne_true, hw18]
      rfl
    cases hf : (Int.tmod ((rd_T38 L x8).f2) 2 == 0)
    · refine EvT.step 0 (fun k _ => ?_) no
      simp only [thresherlaw20_StreamWhole.j10]
      rw [if_neg Bool.false_ne_true, if_neg (show ¬ x8 ≥ (L.length : Int) from h8), if_pos hx8, if_pos (show x8 < (L.length : Int) from by omega), hf]
    · refine EvT.step 0 (fun k _ => ?_) yes
      simp only [thresherlaw20_StreamWhole.j10]
      rw [if_neg Bool.false_ne_true, if_neg (show ¬ x8 ≥ (L.length : Int) from h8), if_pos hx8, if_pos (show x8 < (L.length : Int) from by omega), hf]
/-- The copies of a chunk are through. -/
theorem through (x10 : List Int) (x12 : Int) (j : Nat) (hj : j < 1000) (x14 : ByteArray) (x16 : Bool) (x17 x18 : Int) (h18 : x18 < x17 → x16 = true) (x8 acked a w b rl rs : Int) (rcd : ByteArray) (rdn : Bool)
    (next : EvT (at1 D y1 y2 y3 y4 y5 y6 y7 L x10 x12 ((j + 1 : Nat) : Int) acked x8 a w b rl rs rcd rdn)) :
    EvT (at2 D y1 y2 y3 y4 y5 y6 y7 L x10 x12 (j : Int) x14 x16 x17 x18 acked x8 a w b rl rs rcd rdn) := by
  refine EvT.step 0 (f := fun k => thresherlaw20_StreamWhole.j9 k ((Crc.crc D.data.toList : Nat) : Int) acked x8 x10 x12 (j : Int) x14 x16 x17 x18 false D y1 y2 y3 y4 y5 y6 y7 L D a w b rl rs rcd rdn) (fun k _ => ?_) ?_
  · unfold at2
    simp only [thresherlaw20_StreamWhole.l2]
    by_cases h : x18 < x17
    · rw [if_pos h, h18 h]
      rfl
    · rw [if_neg h]
  · refine EvT.step 0 (fun k _ => ?_) next
    simp only [thresherlaw20_StreamWhole.j9]
    rw [if_neg Bool.false_ne_true, wrapN j (by omega)]
    rfl
/-- A chunk goes: lost, once, or twice. -/
theorem goes (h2 : 1 ≤ D.size) (h3 : D.size ≤ 32768) (x10 : List Int) (hl : x10.length ≤ 3) (x12 : Int) (j : Nat) (hj : j < x10.length) (hoff : x12 ≤ rd x10 (j : Int) ∧ 0 ≤ rd x10 (j : Int) ∧ rd x10 (j : Int) < (D.size : Int))
    (x8 : Int) (hx8 : 0 ≤ x8) (acked a w b rl rs : Int) (rcd : ByteArray) (rdn : Bool) (hW : Way D acked a w b rl rs rcd rdn)
    (next : ∀ acked' a' w' b' rl' rs' rd' rdn', Way D acked' a' w' b' rl' rs' rd' rdn' → ((L.length : Int) ≤ x8 → rcd.size ≤ rd'.size ∧ (rd x10 (j : Int) ≤ (rcd.size : Int) → mn (rd x10 (j : Int) + 48) (D.size : Int) ≤ (rd'.size : Int)) ∧
      a' = (rd'.size : Int) ∧ (a < (rd'.size : Int) → w' = 0 ∧ b' = 1) ∧ (a = (rd'.size : Int) → w' = w ∧ b' = b)) → EvT (at1 D y1 y2 y3 y4 y5 y6 y7 L x10 x12 ((j + 1 : Nat) : Int) acked' x8 a' w' b' rl' rs' rd' rdn')) :
    EvT (at1 D y1 y2 y3 y4 y5 y6 y7 L x10 x12 (j : Int) acked x8 a w b rl rs rcd rdn) := by
  have once : EvT (at2 D y1 y2 y3 y4 y5 y6 y7 L x10 x12 (j : Int) (chunk D (rd x10 (j : Int))) false 1 0 acked x8 a w b rl rs rcd rdn) :=
    comes D y1 y2 y3 y4 y5 y6 y7 L h2 h3 x10 x12 j hj hoff.2 1 0 (by omega) (wrapOk 1 (by omega) (by omega)) x8 hx8 acked a w b rl rs rcd rdn hW (fun acked' a' w' b' rl' rs' rd' rdn' hW' g1 g2 g3 =>
      through D y1 y2 y3 y4 y5 y6 y7 L x10 x12 j (by omega) _ false 1 (0 + 1) (fun h => absurd h (by omega)) x8 acked' a' w' b' rl' rs' rd' rdn' (next _ _ _ _ _ _ _ _ hW' (fun h => ⟨g1, g2, (g3 h).1, (g3 h).2.1, (g3 h).2.2⟩)))
  have j7 : ∀ (x16 : Bool) (x17 : Int), EvT (at2 D y1 y2 y3 y4 y5 y6 y7 L x10 x12 (j : Int) (chunk D (rd x10 (j : Int))) x16 x17 0 acked x8 a w b rl rs rcd rdn) →
      EvT (fun k => thresherlaw20_StreamWhole.j7 k ((Crc.crc D.data.toList : Nat) : Int) acked x8 x10 x12 (j : Int) (chunk D (rd x10 (j : Int))) x16 x17 D y1 y2 y3 y4 y5 y6 y7 L D a w b rl rs rcd rdn) := fun x16 x17 h => by
    refine EvT.step 0 (fun k _ => ?_) h
    simp only [thresherlaw20_StreamWhole.j7]
    rfl
  have first : EvT (fun k => thresherlaw20_StreamWhole.j5 k ((Crc.crc D.data.toList : Nat) : Int) acked x8 x10 x12 (j : Int) (chunk D (rd x10 (j : Int))) (if x8 < (L.length : Int) then (Int.tmod ((rd_T38 L x8).f1) 3 == 0) else false) D y1 y2 y3 y4 y5 y6 y7 L D a w b rl rs rcd rdn) := by
    by_cases h8 : x8 < (L.length : Int)
    · have n8 : ¬ (L.length : Int) ≤ x8 := by omega
      rw [if_pos h8]
      have six : ∀ (x16 : Bool) (two : Bool), EvT (fun k => thresherlaw20_StreamWhole.j6 k ((Crc.crc D.data.toList : Nat) : Int) acked x8 x10 x12 (j : Int) (chunk D (rd x10 (j : Int))) x16 1 two D y1 y2 y3 y4 y5 y6 y7 L D a w b rl rs rcd rdn) := by
        intro x16 two
        have lostOr : ∀ x17 : Int, (x16 = false → EvT (at2 D y1 y2 y3 y4 y5 y6 y7 L x10 x12 (j : Int) (chunk D (rd x10 (j : Int))) false x17 0 acked x8 a w b rl rs rcd rdn)) → EvT (at2 D y1 y2 y3 y4 y5 y6 y7 L x10 x12 (j : Int) (chunk D (rd x10 (j : Int))) x16 x17 0 acked x8 a w b rl rs rcd rdn) := by
          intro x17 hx
          cases x16
          · exact hx rfl
          · exact through D y1 y2 y3 y4 y5 y6 y7 L x10 x12 j (by omega) _ true x17 0 (fun _ => rfl) x8 acked a w b rl rs rcd rdn (next _ _ _ _ _ _ _ _ hW (fun h => absurd h n8))
        cases two
        · refine EvT.step 0 (fun k _ => ?_) (j7 x16 1 (lostOr 1 (fun _ => once)))
          simp only [thresherlaw20_StreamWhole.j6]
          rw [if_neg Bool.false_ne_true]
        · refine EvT.step 0 (fun k _ => ?_) (j7 x16 2 (lostOr 2 (fun _ => ?_)))
          · simp only [thresherlaw20_StreamWhole.j6]
            rw [if_pos trivial]
          · refine comes D y1 y2 y3 y4 y5 y6 y7 L h2 h3 x10 x12 j hj hoff.2 2 0 (by omega) (wrapOk 1 (by omega) (by omega)) x8 hx8 acked a w b rl rs rcd rdn hW (fun acked' a' w' b' rl' rs' rd' rdn' hW' _ _ _ => ?_)
            refine comes D y1 y2 y3 y4 y5 y6 y7 L h2 h3 x10 x12 j hj hoff.2 2 (0 + 1) (by omega) (wrapOk (0 + 1 + 1) (by omega) (by omega)) x8 hx8 acked' a' w' b' rl' rs' rd' rdn' hW' (fun acked'' a'' w'' b'' rl'' rs'' rd'' rdn'' hW'' _ _ _ => ?_)
            exact through D y1 y2 y3 y4 y5 y6 y7 L x10 x12 j (by omega) _ false 2 (0 + 1 + 1) (fun h => absurd h (by omega)) x8 acked'' a'' w'' b'' rl'' rs'' rd'' rdn'' (next _ _ _ _ _ _ _ _ hW'' (fun h => absurd h n8))
      refine EvT.step 0 (fun k _ => ?_) (six (Int.tmod ((rd_T38 L x8).f1) 3 == 0) (Int.tmod ((rd_T38 L x8).f1) 3 == 1))
      simp only [thresherlaw20_StreamWhole.j5]
      rw [if_pos h8, if_pos hx8]
    · rw [if_neg h8]
      refine EvT.step 0 (fun k _ => ?_) (EvT.step (g := fun k => thresherlaw20_StreamWhole.j6 k ((Crc.crc D.data.toList : Nat) : Int) acked x8 x10 x12 (j : Int) (chunk D (rd x10 (j : Int))) false 1 false D y1 y2 y3 y4 y5 y6 y7 L D a w b rl rs rcd rdn) 0 (fun k _ => ?_) (j7 false 1 once))
      · simp only [thresherlaw20_StreamWhole.j5]
        rw [if_neg h8]
      · simp only [thresherlaw20_StreamWhole.j6]
        rw [if_neg Bool.false_ne_true]
  refine EvT.step 0 (fun k _ => ?_) first
  unfold at1
  simp only [thresherlaw20_StreamWhole.l1]
  rw [if_pos (show (j : Int) < (x10.length : Int) from by omega), if_pos (show (0 : Int) ≤ (j : Int) from by omega), if_neg (show ¬ rd x10 (j : Int) < x12 from by omega), chunk_eq, if_pos (show snd D a w b = true ∧ 0 ≤ rd x10 (j : Int) ∧ rd x10 (j : Int) ≤ (D.size : Int) - 1 from ⟨hW.sends_ h2 h3, hoff.2.1, by omega⟩)]
  simp only [Option.bind_some, thresherlaw20_num.f, if_true]
  by_cases h8 : x8 < (L.length : Int)
  · rw [if_pos h8, if_pos hx8, if_pos h8]
  · rw [if_neg h8, if_neg h8]
theorem rd_mem_list {l : List Int} {j : Nat} (hj : j < l.length) : rd l (j : Int) ∈ l := by
  unfold rd
  rw [Int.toNat_natCast, List.getD_eq_getElem?_getD, List.getElem?_eq_getElem hj]
  exact List.getElem_mem hj
/-- All of a tick's chunks, whatever happens to them. -/
theorem allGo (h2 : 1 ≤ D.size) (h3 : D.size ≤ 32768) (x10 : List Int) (hl : x10.length ≤ 3) (x12 : Int) (hin : ∀ x ∈ x10, x12 ≤ x ∧ 0 ≤ x ∧ x < (D.size : Int)) (i : Nat) (hi : i < 9223372036854775806)
    (next : ∀ acked a w b rl rs rcd rdn, Way D acked a w b rl rs rcd rdn → EvT (at0 D y1 y2 y3 y4 y5 y6 y7 L acked ((i + 1 : Nat) : Int) a w b rl rs rcd rdn)) (dd : Nat) :
    ∀ (j : Nat) (acked a w b rl rs : Int) (rcd : ByteArray) (rdn : Bool), j + dd = x10.length → Way D acked a w b rl rs rcd rdn → EvT (at1 D y1 y2 y3 y4 y5 y6 y7 L x10 x12 (j : Int) acked (i : Int) a w b rl rs rcd rdn) := by
  induction dd with
  | zero =>
    intro j acked a w b rl rs rcd rdn hj hW
    refine EvT.step 0 (fun k _ => ?_) (next _ _ _ _ _ _ _ _ hW)
    unfold at1
    simp only [thresherlaw20_StreamWhole.l1]
    rw [if_neg (show ¬ (j : Int) < (x10.length : Int) from by omega), wrapN i (by omega)]
    rfl
  | succ dd ih =>
    intro j acked a w b rl rs rcd rdn hj hW
    have hx := hin _ (rd_mem_list (l := x10) (j := j) (by omega))
    exact goes D y1 y2 y3 y4 y5 y6 y7 L h2 h3 x10 hl x12 j (by omega) hx (i : Int) (by omega) acked a w b rl rs rcd rdn hW (fun _ _ _ _ _ _ _ _ hW' _ => ih (j + 1) _ _ _ _ _ _ _ _ (by omega) hW')
theorem offs_at (a n : Int) (h0 : a < n) : 1 ≤ (offs a n).length ∧ (∀ j : Nat, j < (offs a n).length → rd (offs a n) (j : Int) = a + 48 * (j : Int) ∧ a + 48 * (j : Int) < n) ∧ ((offs a n).length = 3 ∨ n ≤ a + 48 * ((offs a n).length : Int)) := by
  unfold offs
  rw [if_pos h0]
  by_cases h1 : a + 48 < n
  · rw [if_pos h1]
    by_cases h2 : a + 96 < n
    · rw [if_pos h2]
      refine ⟨by simp, fun j hj => ?_, Or.inl rfl⟩
      have hj' : j < 3 := hj
      have : j = 0 ∨ j = 1 ∨ j = 2 := by omega
      rcases this with rfl | rfl | rfl
      · exact ⟨by show a = a + 48 * 0; omega, by omega⟩
      · exact ⟨by show a + 48 = a + 48 * 1; omega, by omega⟩
      · exact ⟨by show a + 96 = a + 48 * 2; omega, by omega⟩
    · rw [if_neg h2]
      refine ⟨by simp, fun j hj => ?_, Or.inr (by show n ≤ a + 48 * 2; omega)⟩
      have hj' : j < 2 := hj
      have : j = 0 ∨ j = 1 := by omega
      rcases this with rfl | rfl
      · exact ⟨by show a = a + 48 * 0; omega, by omega⟩
      · exact ⟨by show a + 48 = a + 48 * 1; omega, by omega⟩
  · rw [if_neg h1, if_neg (show ¬ a + 96 < n from by omega)]
    refine ⟨by simp, fun j hj => ?_, Or.inr (by show n ≤ a + 48 * 1; omega)⟩
    have hj' : j < 1 := hj
    have : j = 0 := by omega
    subst this
    exact ⟨by show a = a + 48 * 0; omega, by omega⟩
/-- All of a tick's chunks, where nothing is lost any more. -/
theorem allCome (h2 : 1 ≤ D.size) (h3 : D.size ≤ 32768) (A : Int) (hA0 : 0 ≤ A) (hA : A < (D.size : Int)) (i : Nat) (hi : i < 9223372036854775806) (hiL : (L.length : Int) ≤ (i : Int))
    (next : ∀ acked a w b rl rs rcd rdn, Way D acked a w b rl rs rcd rdn → w = 0 → mn (A + 144) (D.size : Int) ≤ a → EvT (at0 D y1 y2 y3 y4 y5 y6 y7 L acked ((i + 1 : Nat) : Int) a w b rl rs rcd rdn)) (dd : Nat) :
    ∀ (j : Nat) (acked a w b rl rs : Int) (rcd : ByteArray) (rdn : Bool), j + dd = (offs A (D.size : Int)).length → Way D acked a w b rl rs rcd rdn → mn (A + 48 * (j : Int)) (D.size : Int) ≤ (rcd.size : Int) → (j = 0 → a = A) → (1 ≤ j → w = 0 ∧ b = 1 ∧ a = (rcd.size : Int)) →
      EvT (at1 D y1 y2 y3 y4 y5 y6 y7 L (offs A (D.size : Int)) A (j : Int) acked (i : Int) a w b rl rs rcd rdn) := by
  obtain ⟨o1, o2, o3⟩ := offs_at A (D.size : Int) hA
  have o4 := offs_length A (D.size : Int)
  induction dd with
  | zero =>
    intro j acked a w b rl rs rcd rdn hj hW hm _ hp
    obtain ⟨p1, _, p3⟩ := hp (by omega)
    have hle := hW.got.le
    refine EvT.step 0 (fun k _ => ?_) (next _ _ _ _ _ _ _ _ hW p1 ?_)
    · unfold at1
      simp only [thresherlaw20_StreamWhole.l1]
      rw [if_neg (show ¬ (j : Int) < ((offs A (D.size : Int)).length : Int) from by omega), wrapN i (by omega)]
      rfl
    · unfold mn at hm ⊢
      split <;> split at hm <;> omega
  | succ dd ih =>
    intro j acked a w b rl rs rcd rdn hj hW hm hz hp
    obtain ⟨q1, q2⟩ := o2 j (by omega)
    have hle := hW.got.le
    have hin : rd (offs A (D.size : Int)) (j : Int) ≤ (rcd.size : Int) := by
      rw [q1]
      unfold mn at hm
      split at hm <;> omega
    refine goes D y1 y2 y3 y4 y5 y6 y7 L h2 h3 (offs A (D.size : Int)) o4 A j (by omega) (by rw [q1]; omega) (i : Int) (by omega) acked a w b rl rs rcd rdn hW (fun acked' a' w' b' rl' rs' rd' rdn' hW' hpost => ?_)
    obtain ⟨g1, g2, g3, g4, g5⟩ := hpost hiL
    have g2' := g2 hin
    rw [q1] at g2'
    have hle' := hW'.got.le
    refine ih (j + 1) _ _ _ _ _ _ _ _ (by omega) hW' ?_ (fun e => by omega) (fun _ => ?_)
    · unfold mn at g2' ⊢
      split <;> split at g2' <;> omega
    · by_cases h0 : j = 0
      · have ha := hz h0
        have : A < (rd'.size : Int) := by
          unfold mn at g2'
          split at g2' <;> omega
        have := g4 (by omega)
        exact ⟨this.1, this.2, g3⟩
      · obtain ⟨p1, p2, p3⟩ := hp (by omega)
        by_cases he : a = (rd'.size : Int)
        · have := g5 he
          exact ⟨by omega, by omega, g3⟩
        · have := g4 (by omega)
          exact ⟨this.1, this.2, g3⟩
theorem whole_rounds (h2 : 1 ≤ D.size) (h3 : D.size ≤ 32768) (hL : L.length ≤ 9000) (dd : Nat) : ∀ (i : Nat) (acked a w b rl rs : Int) (rcd : ByteArray) (rdn : Bool), i + dd = L.length + 1200 → Way D acked a w b rl rs rcd rdn →
    (i ≤ L.length ∧ 1 ≤ dd ∨ rdn = true ∨ left D.size a w + 1 ≤ (dd : Int)) → (i = L.length → left D.size a w + 1 ≤ (dd : Int)) → EvT (at0 D y1 y2 y3 y4 y5 y6 y7 L acked (i : Int) a w b rl rs rcd rdn) := by
  have fin : ∀ (i : Nat) (acked a w b rl rs : Int) (rcd : ByteArray) (rdn : Bool), Way D acked a w b rl rs rcd rdn → rdn = true → EvT (fun k => thresherlaw20_StreamWhole.j2 k ((Crc.crc D.data.toList : Nat) : Int) acked (i : Int) false D y1 y2 y3 y4 y5 y6 y7 L D a w b rl rs rcd rdn) := by
    intro i acked a w b rl rs rcd rdn hW hd
    refine EvT.of 1002 (fun k hk => ?_)
    obtain ⟨m, rfl⟩ : ∃ m, k = m + 1 := ⟨k - 1, by omega⟩
    simp only [thresherlaw20_StreamWhole.j2]
    rw [if_neg Bool.false_ne_true, if_pos hd, if_pos (by rw [(hW.got.done hd).1]), wakes_true m (by omega)]
    rfl
  have start : ∀ (i : Nat) (acked a w b rl rs : Int) (rcd : ByteArray) (rdn : Bool), i < L.length + 1200 → rdn = false → Way D acked a w b rl rs rcd rdn →
      EvT (at1 D y1 y2 y3 y4 y5 y6 y7 L (tick D a w b).2.2.2.2 acked 0 acked (i : Int) (tick D a w b).2.1 (tick D a w b).2.2.1 (tick D a w b).2.2.2.1 rl rs rcd rdn) → EvT (at0 D y1 y2 y3 y4 y5 y6 y7 L acked (i : Int) a w b rl rs rcd rdn) := by
    intro i acked a w b rl rs rcd rdn hi hd hW h
    have hlen := tick_length D a w b
    have e1 : (tick D a w b).1 = D := by
      unfold tick
      split
      · rfl
      · split <;> rfl
    refine EvT.step 0 (f := fun k => thresherlaw20_StreamWhole.j2 k ((Crc.crc D.data.toList : Nat) : Int) acked (i : Int) true D y1 y2 y3 y4 y5 y6 y7 L D a w b rl rs rcd rdn) (fun k _ => ?_) ?_
    · unfold at0
      simp only [thresherlaw20_StreamWhole.l0]
      rw [wrapOk ((L.length : Int) + 1200) (by omega) (by omega), if_pos (show (i : Int) < (L.length : Int) + 1200 from by omega), hd]
      rfl
    refine EvT.step 10 (f := fun k => thresherlaw20_StreamWhole.j3 k ((Crc.crc D.data.toList : Nat) : Int) acked (i : Int) (tick D a w b).2.2.2.2 false D y1 y2 y3 y4 y5 y6 y7 L rl rs rcd rdn D (tick D a w b).2.1 (tick D a w b).2.2.1 (tick D a w b).2.2.2.1) (fun k hk => ?_) ?_
    · simp only [thresherlaw20_StreamWhole.j2]
      rw [if_pos trivial, tick_eq k (by omega), if_pos (hW.sends_ h2 h3)]
      simp only [Option.bind_some, thresherlaw20_num.f, if_true]
      rw [e1, decide_eq_false (show ¬ ((tick D a w b).2.2.2.2.length : Int) > 3 from by omega)]
    · refine EvT.step 0 (fun k _ => ?_) h
      simp only [thresherlaw20_StreamWhole.j3]
      rw [if_neg Bool.false_ne_true]
      rfl
  induction dd with
  | zero =>
    intro i acked a w b rl rs rcd rdn hi hW hg _
    have hd : rdn = true := by
      have hle := hW.got.le
      have h1 := hW.le
      have h2' := hW.a0
      have h3' := hW.w0
      rcases hg with h | h | h
      · omega
      · exact h
      · unfold left at h
        omega
    refine EvT.step 0 (fun k _ => ?_) (fin i acked a w b rl rs rcd rdn hW hd)
    unfold at0
    simp only [thresherlaw20_StreamWhole.l0]
    rw [wrapOk ((L.length : Int) + 1200) (by omega) (by omega), if_neg (show ¬ (i : Int) < (L.length : Int) + 1200 from by omega)]
  | succ dd ih =>
    intro i acked a w b rl rs rcd rdn hi hW hg hgl
    cases hd : rdn
    · rw [hd] at hW
      have hle := hW.got.le
      have h1 := hW.le
      have ha0 := hW.a0
      have hw0 := hW.w0
      have hw8 := hW.w8
      have hb1 := hW.b1
      have hb8 := hW.b8
      have haN : a < (D.size : Int) := by
        by_cases e : a = (D.size : Int)
        · exfalso
          have hk := hW.got.kind
          rcases hk with ⟨_, _, e0, _⟩ | ⟨_, _, e0⟩
          · omega
          · rw [decide_eq_true (by omega)] at e0
            exact Bool.false_ne_true e0
        · omega
      refine start i acked a w b rl rs rcd false (by omega) rfl hW ?_
      by_cases hlt : i < L.length
      · -- whatever happens
        have gen : ∀ acked a w b rl rs rcd rdn, Way D acked a w b rl rs rcd rdn → EvT (at0 D y1 y2 y3 y4 y5 y6 y7 L acked ((i + 1 : Nat) : Int) a w b rl rs rcd rdn) := fun acked a w b rl rs rcd rdn hW' => by
          have := hW'.got.le
          have := hW'.le
          have := hW'.a0
          have := hW'.w8
          refine ih (i + 1) _ _ _ _ _ _ _ _ (by omega) hW' (Or.inl ⟨by omega, by omega⟩) (fun e => ?_)
          unfold left
          omega
        have hWt : Way D acked (tick D a w b).2.1 (tick D a w b).2.2.1 (tick D a w b).2.2.2.1 rl rs rcd false := by
          unfold tick
          rw [if_neg (by omega)]
          by_cases hw : w > 0
          · rw [if_pos hw]
            exact ⟨hW.got, ha0, hW.eqa, h1, by show 0 ≤ w - 1; omega, by show w - 1 ≤ 8; omega, hb1, hb8⟩
          · rw [if_neg hw]
            exact ⟨hW.got, ha0, hW.eqa, h1, by show 0 ≤ b; omega, hb8, by show 1 ≤ mn (2 * b) 8; unfold mn; split <;> omega, by show mn (2 * b) 8 ≤ 8; unfold mn; split <;> omega⟩
        have hin : ∀ x ∈ (tick D a w b).2.2.2.2, acked ≤ x ∧ 0 ≤ x ∧ x < (D.size : Int) := fun x hx => by
          have := tick_in hx
          have := hW.eqa
          omega
        exact allGo D y1 y2 y3 y4 y5 y6 y7 L h2 h3 _ (tick_length D a w b) acked hin i (by omega) gen _ 0 acked _ _ _ rl rs rcd false (Nat.zero_add _) hWt
      · have hgo : left D.size a w + 1 ≤ ((dd + 1 : Nat) : Int) := by
          by_cases e : i = L.length
          · exact hgl e
          · rcases hg with h | h | h
            · omega
            · rw [hd] at h
              exact absurd h Bool.false_ne_true
            · exact h
        by_cases hw : w > 0
        · have et : tick D a w b = (D, a, w - 1, b, []) := by
            unfold tick
            rw [if_neg (by omega), if_pos hw]
          rw [et]
          have hWt : Way D acked a (w - 1) b rl rs rcd false := ⟨hW.got, ha0, hW.eqa, h1, by omega, by omega, hb1, hb8⟩
          refine EvT.step 0 (fun k _ => ?_) (ih (i + 1) _ _ _ _ _ _ _ _ (by omega) hWt (Or.inr (Or.inr ?_)) (fun e => by omega))
          · unfold at1
            simp only [thresherlaw20_StreamWhole.l1]
            rw [if_neg (by simp), wrapN i (by omega)]
            rfl
          · unfold left at hgo ⊢
            omega
        · have et : tick D a w b = (D, a, b, mn (2 * b) 8, offs a (D.size : Int)) := by
            unfold tick
            rw [if_neg (by omega), if_neg hw]
          rw [et]
          have hWt : Way D acked a b (mn (2 * b) 8) rl rs rcd false := ⟨hW.got, ha0, hW.eqa, h1, by omega, hb8, by unfold mn; split <;> omega, by unfold mn; split <;> omega⟩
          have hea := hW.eqa
          subst hea
          refine allCome D y1 y2 y3 y4 y5 y6 y7 L h2 h3 acked ha0 haN i (by omega) (by omega) (fun acked' a' w' b' rl' rs' rd' rdn' hW' hw' hp => ?_) _ 0 acked acked b (mn (2 * b) 8) rl rs rcd false (Nat.zero_add _) hWt ?_ (fun _ => rfl) (fun h => absurd h (by omega))
          · have := hW'.got.le
            have := hW'.le
            refine ih (i + 1) _ _ _ _ _ _ _ _ (by omega) hW' (Or.inr (Or.inr ?_)) (fun e => by omega)
            unfold left at hgo ⊢
            unfold mn at hp
            split at hp <;> omega
          · show mn (acked + 48 * 0) (D.size : Int) ≤ (rcd.size : Int)
            unfold mn
            split <;> omega
    · rw [hd] at hW
      by_cases hlt : i < L.length + 1200
      · refine EvT.step 0 (fun k _ => ?_) (fin i acked a w b rl rs rcd true hW rfl)
        unfold at0
        simp only [thresherlaw20_StreamWhole.l0]
        rw [wrapOk ((L.length : Int) + 1200) (by omega) (by omega), if_pos (show (i : Int) < (L.length : Int) + 1200 from by omega)]
        rfl
      · omega
end
theorem whole_all (L : List S38) (hL : L.length ≤ 140737488351232) (hz : ∀ x ∈ L, x.f4.size ≤ 140737488351232) (D : ByteArray) (y1 y2 y3 y4 y5 : Int) (y6 : ByteArray) (y7 : Bool) (h0 : D.size ≤ 140737488351232) (h6 : y6.size ≤ 140737488351232) :
    ∃ k, thresherlaw20_StreamWhole.f k D y1 y2 y3 y4 y5 y6 y7 L = some true := by
  have j0 : ∀ b : Bool, (b = false → 1 ≤ D.size ∧ D.size ≤ 2000 ∧ L.length ≤ 9000) → EvT (fun k => thresherlaw20_StreamWhole.j0 k b D y1 y2 y3 y4 y5 y6 y7 L) := by
    intro b hb
    cases b
    · obtain ⟨h1, h2, h3⟩ := hb rfl
      have hs : PureStreamWhole.snd D 0 0 1 = true := decide_eq_true (by omega)
      have hg : Got D (-1) 0 (⟨#[]⟩ : ByteArray) false := ⟨by rfl, by exact Nat.zero_le _, Or.inl ⟨rfl, rfl, rfl, rfl⟩⟩
      have hW : Way D 0 0 0 1 (-1) 0 (⟨#[]⟩ : ByteArray) false := ⟨hg, by omega, rfl, by exact Int.le_refl 0, by omega, by omega, by omega, by omega⟩
      have hr := whole_rounds D y1 y2 y3 y4 y5 y6 y7 L h1 (by omega) h3 (L.length + 1200) 0 0 0 0 1 (-1) 0 (⟨#[]⟩ : ByteArray) false (by omega) hW (Or.inl ⟨by omega, by omega⟩) (fun _ => by unfold left; omega)
      refine EvT.step 20001 (fun k hk => ?_) hr
      simp only [thresherlaw20_StreamWhole.j0]
      rw [if_neg Bool.false_ne_true, send_eq, if_pos hs]
      simp only [Option.bind_some, thresherlaw20_num.f, if_true, stream_New.f]
      rw [ref_crc D (by omega) k (by omega)]
      rfl
    · refine EvT.of 1 (fun k hk => ?_)
      obtain ⟨m, rfl⟩ : ∃ m, k = m + 1 := ⟨k - 1, by omega⟩
      simp only [thresherlaw20_StreamWhole.j0]
      rfl
  obtain ⟨K1, hK1⟩ := j0 true (fun e => absurd e.symm Bool.false_ne_true)
  by_cases hc : (1 ≤ D.size ∧ D.size ≤ 2000 ∧ L.length ≤ 9000)
  · obtain ⟨K2, hK2⟩ := j0 false (fun _ => hc)
    obtain ⟨b, hb, _⟩ := heavy_eq L hL hz D y1 y2 y3 y4 y5 y6 y7 h0 h6 (K1 + K2 + L.length + 1) (by omega)
    refine ⟨K1 + K2 + L.length + 1, ?_⟩
    unfold thresherlaw20_StreamWhole.f
    rw [hb]
    simp only [Option.bind_some]
    cases b
    · rw [if_neg Bool.false_ne_true, if_neg (show ¬ (D.size : Int) = 0 from by omega), decide_eq_false (show ¬ (D.size : Int) > 2000 from by omega)]
      exact hK2 _ (by omega)
    · rw [if_pos rfl]
      exact hK1 _ (by omega)
  · obtain ⟨b, hb, hn⟩ := heavy_eq L hL hz D y1 y2 y3 y4 y5 y6 y7 h0 h6 (K1 + L.length + 1) (by omega)
    refine ⟨K1 + L.length + 1, ?_⟩
    unfold thresherlaw20_StreamWhole.f
    rw [hb]
    simp only [Option.bind_some]
    cases b
    · have hn' := hn rfl
      rw [if_neg Bool.false_ne_true]
      by_cases h1 : (D.size : Int) = 0
      · rw [if_pos h1]
        exact hK1 _ (by omega)
      · rw [if_neg h1, decide_eq_true (show (D.size : Int) > 2000 from by omega)]
        exact hK1 _ (by omega)
    · rw [if_pos rfl]
      exact hK1 _ (by omega)
end Go.Proofs.Ytbadcpaopdbgnaa.PureStreamWhole
namespace Go.Proofs.Ytbadcpaopdbgnaa.Pure
open Go.Proofs.Ytbadcpaopdbgnaa.PStreamWhole
theorem StreamWhole : ∀ (a0_0 : ByteArray) (a0_1 : Int) (a0_2 : Int) (a0_3 : Int) (a0_4 : Int) (a0_5 : Int) (a0_6 : ByteArray) (a0_7 : Bool) (l0_8 : List S38), a0_0.size ≤ 140737488351232 → (Lit.int .i64 a0_1).wf = true → (Lit.int .i64 a0_2).wf = true → (Lit.int .i64 a0_3).wf = true → (Lit.int .i64 a0_4).wf = true → (Lit.int .u32 a0_5).wf = true → a0_6.size ≤ 140737488351232 → True → (l0_8.length * 56 ≤ 140737488351232 ∧ ∀ x1 ∈ l0_8, ((Lit.int .i64 x1.f0).wf = true ∧ (Lit.int .i64 x1.f1).wf = true ∧ (Lit.int .i64 x1.f2).wf = true ∧ (Lit.int .u32 x1.f3).wf = true ∧ x1.f4.size ≤ 140737488351232 ∧ True)) → ∃ k, thresherlaw20_StreamWhole.f k a0_0 a0_1 a0_2 a0_3 a0_4 a0_5 a0_6 a0_7 l0_8 = some true :=
  fun p0 p1 p2 p3 p4 p5 p6 p7 L h0 _ _ _ _ _ h6 _ hL => PureStreamWhole.whole_all L (by omega) (fun x hx => (hL.2 x hx).2.2.2.2.1) p0 p1 p2 p3 p4 p5 p6 p7 h0 h6
end Go.Proofs.Ytbadcpaopdbgnaa.Pure
