-- Put together by mergex.py out of this workplace's texts.
import Derived.Test.YtpepmmfhanaipaaGreatDoorJg
section
namespace Go.Proofs.YtpepmmfhanaipaaGreatDoor.Lang
open Go.RowKit Go.Shelf
set_option linter.unusedVariables false
set_option linter.unusedSimpArgs false
structure St where
  opens : List Ops
  heads : List (Int × Int)
  waits : Bool
  many : Nat
deriving DecidableEq
def lb : ByteArray := ⟨#[91]⟩
def rb : ByteArray := ⟨#[93]⟩
def wd (st : St) (s : ByteArray) : Except Int St :=
  if s = lb ∨ s = rb then
    if st.waits ≠ decide (s = lb) then .error 7
    else if s = lb then (if 6 < st.opens.length then .error 2 else .ok { st with opens := .nil :: st.opens, waits := false })
    else match st.heads, st.opens with
      | p :: hs, t :: l :: os => .ok { st with opens := l.snoc p.1 p.2 t :: os, heads := hs }
      | _, _ => .error 7
  else match opOf s with
    | none => .error 7
    | some p =>
      if st.waits then .error 7
      else if st.many = 128 then .error 2
      else if p.1 = 28 ∨ p.1 = 29 then .ok { st with heads := p :: st.heads, waits := true, many := st.many + 1 }
      else match st.opens with
        | l :: os => .ok { st with opens := l.snoc p.1 p.2 .nil :: os, many := st.many + 1 }
        | [] => .error 7
structure Inv (st : St) : Prop where
  len : st.opens.length = st.heads.length + (if st.waits then 0 else 1)
  pos : 0 < st.opens.length
  deep : st.opens.length ≤ 7
  sum : (st.opens.map Ops.len).sum + st.heads.length ≤ st.many
  many : st.many ≤ 128
theorem Inv.wd {st st' : St} {s : ByteArray} (h : Inv st) (hw : wd st s = .ok st') : Inv st' := by
  obtain ⟨h1, h2, h3, h4, h5⟩ := h
  unfold Lang.wd at hw
  split at hw
  · split at hw
    · cases hw
    · rename_i hww
      by_cases hs : s = lb
      · rw [if_pos hs] at hw
        split at hw
        · cases hw
        · rename_i hd
          cases hw
          have : st.waits = true := by simpa [hs] using hww
          simp only [this, if_true] at h1
          exact ⟨by simp; omega, by simp, by simp; omega, by simpa [Ops.len] using h4, h5⟩
      · rw [if_neg hs] at hw
        split at hw
        · rename_i hh ho
          cases hw
          have hwt : st.waits = false := by simpa [hs] using hww
          rw [hh, ho] at h1 h4
          rw [ho] at h3
          simp only [hwt, List.length_cons, List.map_cons, List.sum_cons] at h1 h3 h4
          exact ⟨by simp [hwt] at h1 ⊢; omega, by simp, by simp; omega, by simp [Ops.len_snoc]; omega, h5⟩
        · cases hw
  · split at hw
    · cases hw
    · split at hw
      · cases hw
      · rename_i hwt
        split at hw
        · cases hw
        · split at hw
          · cases hw
            simp only [hwt] at h1
            exact ⟨by simp at h1 ⊢; omega, h2, h3, by simp; omega, by simp; omega⟩
          · split at hw
            · rename_i ho
              cases hw
              rw [ho] at h1 h3 h4
              simp only [List.length_cons, List.map_cons, List.sum_cons] at h1 h3 h4
              exact ⟨by simpa using h1, by simp, by simpa using h3, by simp [Ops.len_snoc]; omega, by simp; omega⟩
            · cases hw
theorem nd_swap {X Y : List Nat} {v v' : Value} {N : Nat} (h : (X ++ (bl v ++ Y)).Nodup) (hx : ∀ g, g ∈ X ∨ g ∈ Y → g < N) (hv : v'.ownBlock = v.ownBlock ∨ ∃ g, v'.ownBlock = some g ∧ N ≤ g) : (X ++ (bl v' ++ Y)).Nodup := by
  rcases hv with hv | ⟨g, hv, hg⟩
  · have : bl v' = bl v := by unfold bl; rw [hv]
    rw [this]
    exact h
  · have e : bl v' = [g] := by unfold bl; rw [hv]; rfl
    rw [e]
    rw [List.nodup_append] at h ⊢
    obtain ⟨h1, h2, h3⟩ := h
    rw [List.nodup_append] at h2
    refine ⟨h1, ?_, ?_⟩
    · rw [List.nodup_append]
      refine ⟨by simp, h2.2.1, fun a ha b hb => ?_⟩
      simp at ha
      subst ha
      have := hx b (.inr hb)
      omega
    · intro a ha b hb
      simp only [List.mem_append, List.mem_cons, List.not_mem_nil, or_false] at hb
      rcases hb with rfl | hb
      · have := hx a (.inl ha)
        omega
      · exact h3 a ha b (by simp [hb])
theorem av_swap {X Y : List Nat} {v v' : Value} {N : Nat} {Av : Nat → Prop} (h : ∀ g ∈ X ++ (bl v ++ Y), ¬ Av g) (hA : ∀ g, Av g → g < N) (hv : v'.ownBlock = v.ownBlock ∨ ∃ g, v'.ownBlock = some g ∧ N ≤ g) : ∀ g ∈ X ++ (bl v' ++ Y), ¬ Av g := by
  intro g hg
  simp only [List.mem_append] at hg h
  rcases hg with hg | hg | hg
  · exact h g (.inl hg)
  · rcases hv with hv | ⟨g', hv, hg'⟩
    · have e : bl v' = bl v := by unfold bl; rw [hv]
      rw [e] at hg
      exact h g (.inr (.inl hg))
    · have e : bl v' = [g'] := by unfold bl; rw [hv]; rfl
      rw [e] at hg
      simp only [List.mem_cons, List.not_mem_nil, or_false] at hg
      subst hg
      exact fun ha => by have := hA g ha; omega
  · exact h g (.inr (.inr hg))
structure PSt (w : World) (B pa : Nat) (Av : Nat → Prop) (st : St) : Prop where mk ::
  out : ∃ vo vh vs F, w.heap[pa]? = some (.cells #[vo, vh, .bool st.waits, .int .i64 (st.many : Int)] 244 (0, 0)) ∧ B ≤ pa ∧ w.ownsRow B 102 1 vo st.opens.reverse.length vs ∧ w.ownsRow B 199 3 vh st.heads.reverse.length (headCells st.heads.reverse) ∧
    StackAt w B st.opens.reverse vs F ∧ (pa :: (bl vo ++ (bl vh ++ F))).Nodup ∧ ∀ g ∈ pa :: (bl vo ++ (bl vh ++ F)), ¬ Av g
def WR (w : World) (B pa : Nat) (Av : Nat → Prop) (st : St) (s : ByteArray) (e : Ending) (w' : World) : Prop :=
  Below B w w' ∧ (∀ g, Av g → w'.heap[g]? = w.heap[g]?) ∧ (∀ c, wd st s = .error c → e = .returned (.int .i64 c)) ∧ (∀ st', wd st s = .ok st' → e = .returned (.int .i64 0) ∧ PSt w' B pa Av st')
theorem WR.err {w : World} {B pa : Nat} {Av : Nat → Prop} {st : St} {s : ByteArray} {c : Int} {S : List Nat} (h : wd st s = .error c) (hB : B ≤ w.heap.size) (hS : ∀ g ∈ S, B ≤ g) (hA : ∀ g, Av g → g < w.heap.size) (hSA : ∀ g ∈ S, ¬ Av g) {w' : World} (hu : Upd w w' S) : WR w B pa Av st s (.returned (.int .i64 c)) w' :=
  ⟨hu.below hB hS, fun g hg => hu.block g (hA g hg) (fun h => hSA g h hg), fun c' h' => by rw [h] at h'; cases h'; rfl, fun st' h' => by rw [h] at h'; cases h'⟩
theorem WR.ok {w : World} {B pa : Nat} {Av : Nat → Prop} {st st' : St} {s : ByteArray} {S : List Nat} (h : wd st s = .ok st') (hB : B ≤ w.heap.size) (hS : ∀ g ∈ S, B ≤ g) (hA : ∀ g, Av g → g < w.heap.size) (hSA : ∀ g ∈ S, ¬ Av g) {w' : World} (hu : Upd w w' S) (hp : PSt w' B pa Av st') : WR w B pa Av st s (.returned (.int .i64 0)) w' :=
  ⟨hu.below hB hS, fun g hg => hu.block g (hA g hg) (fun h => hSA g h hg), fun c' h' => (by rw [h] at h'; cases h'), fun st'' h' => by rw [h] at h'; cases h'; exact ⟨rfl, hp⟩⟩
theorem word_calls (w : World) (hL : Laid w) (B pa : Nat) (Av : Nat → Prop) (hA : ∀ g, Av g → g < w.heap.size) (st : St) (hB : B ≤ w.heap.size) (hinv : Inv st) (hps : PSt w B pa Av st) (s : ByteArray) (hsz : s.size ≤ 281474976710656) :
    Calls Tryz.prog 174 #[.pointer (some ⟨pa, 0, none⟩), .string s] w (WR w B pa Av st s) := by
  obtain ⟨vo, vh, vs, F, hp, hBp, ho, hh, hst, hnd, hav⟩ := hps.out
  obtain ⟨opens, heads, waits, many⟩ := st
  obtain ⟨i1, i2, i3, i4, i5⟩ := hinv
  simp only at hp ho hh hst i1 i2 i3 i4 i5
  have hmo := own_mem ho
  have hmh := own_mem hh
  have hmf := hst.mem
  have hbl : ∀ g ∈ bl vo, B ≤ g := fun g hg => (hmo g hg).1
  have hpl := blk_lt' hp
  by_cases hbr : s = lb ∨ s = rb
  · by_cases hw : waits ≠ decide (s = lb)
    · have hwd : wd ⟨opens, heads, waits, many⟩ s = .error 7 := by unfold wd; rw [if_pos hbr, if_pos hw]
      exact (word_bracket w pa s _ _ hbr (bracket_bad1 w pa vo vh _ waits s hp hw)).mono fun e w' ⟨he, hw'⟩ => by
        subst he; subst hw'; exact WR.err hwd hB (S := []) (by simp) hA (by simp) (Upd.refl _ _)
    · have hw' : waits = decide (s = lb) := by simpa using hw
      by_cases hs : s = lb
      · subst hs
        have hwt : waits = true := by simpa using hw'
        subst hwt
        by_cases hd : 6 < opens.length
        · have hwd : wd ⟨opens, heads, true, many⟩ lb = .error 2 := by unfold wd; rw [if_pos hbr, if_neg hw, if_pos rfl, if_pos hd]
          obtain ⟨A, c, rfl⟩ := own_slice ho
          exact (word_bracket w pa lb _ _ hbr (bracket_deep w pa _ c A vh _ hp (by simpa using hd))).mono fun e w' ⟨he, hw'⟩ => by
            subst he; subst hw'; exact WR.err hwd hB (S := []) (by simp) hA (by simp) (Upd.refl _ _)
        · have hwd : wd ⟨opens, heads, true, many⟩ lb = .ok ⟨.nil :: opens, heads, false, many⟩ := by unfold wd; rw [if_pos hbr, if_neg hw, if_pos rfl, if_neg hd]
          have hpn : pa ∉ bl vo := fun h => by
            rw [List.nodup_cons] at hnd
            exact hnd.1 (by simp [h])
          exact (word_bracket w pa lb _ _ hbr (bracket_open w B pa _ vo vh _ vs hp hB ho (by simp; omega) hpn)).mono fun e w' ⟨he, vo', hp', ho', hu, hloc⟩ => by
            subst he
            refine WR.ok hwd hB (S := pa :: bl vo) (fun g hg => by rcases List.mem_cons.mp hg with rfl | h; exact hBp; exact hbl g h) hA (fun g hg => hav g (by rcases List.mem_cons.mp hg with rfl | h <;> simp [*])) hu ⟨vo', vh, vs ++ [.slice none 0 0], F ++ [], hp', hBp, ?_, ?_, ?_, ?_, ?_⟩
            · simpa using ho'
            · exact hu.own hh (fun g hg => by
                rw [List.nodup_cons, List.nodup_append] at hnd
                simp only [List.mem_cons, not_or]
                exact ⟨fun e => hnd.1 (by simp [← e, hg]), fun h => hnd.2.2.2 g h g (by simp [hg]) rfl⟩)
            · simp only [List.reverse_cons]
              refine StackAt.snoc (SliceAt.nil w' B) (hst.frame (fun g hg => hu.block g (hmf g hg).2 ?_))
              rw [List.nodup_cons, List.nodup_append] at hnd
              simp only [List.mem_cons, not_or]
              exact ⟨fun e => hnd.1 (by simp [← e, hg]), fun h => hnd.2.2.2 g h g (by simp [hg]) rfl⟩
            · rw [List.append_nil]
              exact nd_swap (X := [pa]) hnd (N := w.heap.size) (fun g hg => by
                simp only [List.mem_cons, List.not_mem_nil, or_false, List.mem_append] at hg
                rcases hg with rfl | hg | hg
                · exact hpl
                · exact (hmh g hg).2
                · exact (hmf g hg).2) hloc
            · rw [List.append_nil]
              exact av_swap (X := [pa]) hav hA hloc
      · have hwt : waits = false := by rw [hw']; exact decide_eq_false hs
        subst hwt
        have hs91 : s ≠ ⟨#[91]⟩ := hs
        cases heads with
        | nil =>
          have hwd : wd ⟨opens, [], false, many⟩ s = .error 7 := by unfold wd; rw [if_pos hbr, if_neg hw, if_neg hs]
          obtain ⟨A, c, rfl⟩ := own_slice hh
          exact (word_bracket w pa s _ _ hbr (bracket_none w pa c A vo _ s hs91 hp)).mono fun e w' ⟨he, hw'⟩ => by
            subst he; subst hw'; exact WR.err hwd hB (S := []) (by simp) hA (by simp) (Upd.refl _ _)
        | cons p hs' =>
          obtain ⟨t, l, os, rfl⟩ : ∃ t l os, opens = t :: l :: os := by
            match opens, i1 with
            | [], h => simp at h
            | [_], h => simp at h
            | t :: l :: os, _ => exact ⟨t, l, os, rfl⟩
          have hwd : wd ⟨t :: l :: os, p :: hs', false, many⟩ s = .ok ⟨l.snoc p.1 p.2 t :: os, hs', false, many⟩ := by unfold wd; rw [if_pos hbr, if_neg hw, if_neg hs]
          have hlen : os.length = hs'.length := by simpa using i1
          simp only [List.reverse_cons, List.append_assoc] at hst hh ho
          rw [← List.append_assoc] at hst
          obtain ⟨vt, vs2, F0, F2, rfl, rfl, hst2, hvt⟩ := hst.unsnoc
          obtain ⟨v1, vs1, F3, F1, rfl, rfl, hst1, hv1⟩ := hst2.unsnoc
          obtain ⟨xs, F1', rfl, hx1, hx2⟩ := hv1
          obtain ⟨A1, c1, rfl⟩ := own_slice hx1
          obtain ⟨A2, n2, c2, hvt2⟩ : ∃ A n c, vt = .slice A n c := by
            obtain ⟨_, _, _, h, _⟩ := hvt
            obtain ⟨A, c, h⟩ := own_slice h
            exact ⟨A, _, c, h⟩
          have ho2 : w.ownsRow B 102 1 vo (os.length + 2) (vs1 ++ [.slice A1 l.len c1, vt]) := by simpa using ho
          have hh2 : w.ownsRow B 199 3 vh (os.length + 1) (headCells hs'.reverse ++ [.int .i64 p.1, .int .i64 p.2, .slice none 0 0]) := by simpa [headCells_append, headCells, hlen] using hh
          obtain ⟨go, co, rfl⟩ : ∃ go co, vo = .slice (some ⟨go, 0, none⟩) (os.length + 2) co := by
            rcases ho2.2 with ⟨_, h⟩ | ⟨g, c, _, h, _⟩
            · omega
            · exact ⟨g, c, h⟩
          obtain ⟨gh, ch, rfl⟩ : ∃ gh ch, vh = .slice (some ⟨gh, 0, none⟩) (os.length + 1) ch := by
            rcases hh2.2 with ⟨_, h⟩ | ⟨g, c, _, h, _⟩
            · omega
            · exact ⟨g, c, h⟩
          simp only [bl_some] at hnd hmo hmh hbl
          have hnd0 := hnd
          simp only [List.cons_append, List.nil_append] at hnd0
          obtain ⟨n1, hnd1⟩ := List.nodup_cons.mp hnd0
          obtain ⟨n2, hnd2⟩ := List.nodup_cons.mp hnd1
          obtain ⟨n3, n4⟩ := List.nodup_cons.mp hnd2
          have d1 : pa ≠ go := fun e => n1 (by simp [e])
          have d2 : pa ≠ gh := fun e => n1 (by simp [e])
          have d4 : go ≠ gh := fun e => n2 (by simp [e])
          have d3 : pa ∉ bl (.slice A1 l.len c1) := fun h => n1 (by simp [h])
          have d5 : go ∉ bl (.slice A1 l.len c1) := fun h => n2 (by simp [h])
          have d6 : gh ∉ bl (.slice A1 l.len c1) := fun h => n3 (by simp [h])
          have m1 : ∀ g, g ∈ F3 ∨ g ∈ F1' ∨ g ∈ F2 → g ∉ pa :: go :: bl (.slice A1 l.len c1) := fun g hg => by
            simp only [List.mem_cons, not_or]
            refine ⟨fun e => n1 (by rw [← e]; rcases hg with hg | hg | hg <;> simp [hg]), fun e => n2 (by rw [← e]; rcases hg with hg | hg | hg <;> simp [hg]), fun h => ?_⟩
            rw [List.append_assoc, List.nodup_append] at n4
            obtain ⟨_, q2, q3⟩ := n4
            rw [List.append_assoc, List.nodup_append] at q2
            rcases hg with hg | hg | hg
            · exact q3 g hg g (by simp [h]) rfl
            · exact q2.2.2 g h g (by simp [hg]) rfl
            · exact q2.2.2 g h g (by simp [hg]) rfl
          have hm128 : l.len ≤ 128 := by simp at i4; omega
          exact (word_bracket w pa s _ _ hbr (bracket_close w B pa os.length go gh co ch l.len _ (.slice A1 l.len c1) vt vs1 xs _ p.1 p.2 s hs91 hp hB ho2 hh2 hx1 (by simp at i3; omega) hm128 d1 d2 d3 d4 d5 d6 ⟨_, _, _, hvt2⟩)).mono fun e w' ⟨he, v1', hp', ho', hv', hu, hloc⟩ => by
            subst he
            have hlt : ∀ g, g ∈ F3 ∨ g ∈ F1' ∨ g ∈ F2 → g < w.heap.size := fun g hg => (hmf g (by rcases hg with hg | hg | hg <;> simp [hg])).2
            have fr : ∀ g, g ∈ F3 ∨ g ∈ F1' ∨ g ∈ F2 → w'.heap[g]? = w.heap[g]? := fun g hg => hu.block g (hlt g hg) (m1 g hg)
            refine WR.ok hwd hB (S := pa :: go :: bl (.slice A1 l.len c1)) (fun g hg => ?_) hA (fun g hg => hav g (by simp only [List.mem_cons] at hg; rcases hg with rfl | rfl | hg <;> simp [bl_some, *])) hu ⟨.slice (some ⟨go, 0, none⟩) (os.length + 1) co, .slice (some ⟨gh, 0, none⟩) os.length ch, vs1 ++ [v1'], F3 ++ (bl v1' ++ (F1' ++ F2)), hp', hBp, by simpa using ho', ?_, ?_, ?_, ?_⟩
            · simp only [List.mem_cons] at hg
              rcases hg with rfl | rfl | hg
              · exact hBp
              · exact hbl g (by simp)
              · exact (own_mem hx1 g hg).1
            · have h5 := own_take (hu.own hh2 (fun g hg => by rw [bl_some] at hg; simp only [List.mem_cons, List.not_mem_nil, or_false] at hg ⊢; subst hg; exact not_or.mpr ⟨fun e => d2 e.symm, not_or.mpr ⟨fun e => d4 e.symm, d6⟩⟩)) os.length (by omega)
              rw [List.take_left' (by rw [headCells_length]; simp [hlen])] at h5
              simpa [hlen] using h5
            · simp only [List.reverse_cons]
              refine StackAt.snoc ⟨_, F1' ++ F2, rfl, by rw [Ops.len_snoc]; exact hv', ?_⟩ (hst1.frame (fun g hg => fr g (.inl hg)))
              exact OpsAt.snoc (hvt.frame (fun g hg => fr g (.inr (.inr hg)))) (hx2.frame (fun g hg => fr g (.inr (.inl hg))))
            · refine nd_swap (X := pa :: go :: gh :: F3) (v := .slice A1 l.len c1) (N := w.heap.size) ?_ (fun g hg => ?_) hloc
              · simpa using hnd0
              · simp only [List.mem_cons, List.mem_append] at hg
                rcases hg with (rfl | rfl | rfl | hg) | hg | hg
                · exact hpl
                · exact (hmo g (by simp)).2
                · exact (hmh g (by simp)).2
                · exact hlt g (.inl hg)
                · exact hlt g (.inr (.inl hg))
                · exact hlt g (.inr (.inr hg))
            · exact av_swap (X := pa :: go :: gh :: F3) (v := .slice A1 l.len c1) (N := w.heap.size) (by simpa [bl_some] using hav) hA hloc
  · have h91 : s ≠ ⟨#[91]⟩ := fun h => hbr (.inl h)
    have h93 : s ≠ ⟨#[93]⟩ := fun h => hbr (.inr h)
    cases hop : opOf s with
    | none =>
      have hwd : wd ⟨opens, heads, waits, many⟩ s = .error 7 := by unfold wd; rw [if_neg hbr, hop]
      exact (word_bad w hL pa vo vh _ waits s hsz h91 h93 hp (.inr hop)).mono fun e w' ⟨he, hu⟩ => by
        subst he; exact WR.err hwd hB (by simp) hA (by simp) hu
    | some p =>
      obtain ⟨k, n⟩ := p
      by_cases hwt : waits = true
      · subst hwt
        have hwd : wd ⟨opens, heads, true, many⟩ s = .error 7 := by unfold wd; rw [if_neg hbr, hop]; rfl
        exact (word_bad w hL pa vo vh _ true s hsz h91 h93 hp (.inl rfl)).mono fun e w' ⟨he, hu⟩ => by
          subst he; exact WR.err hwd hB (by simp) hA (by simp) hu
      · have hwf : waits = false := by simpa using hwt
        subst hwf
        by_cases hm : many = 128
        · subst hm
          have hwd : wd ⟨opens, heads, false, 128⟩ s = .error 2 := by unfold wd; rw [if_neg hbr, hop]; rfl
          exact (word_limit w hL pa vo vh s hsz h91 h93 hp hop).mono fun e w' ⟨he, hu⟩ => by
            subst he; exact WR.err hwd hB (by simp) hA (by simp) hu
        · have hnd0 := hnd
          obtain ⟨n1, n2⟩ := List.nodup_cons.mp hnd
          by_cases hk : k = 28 ∨ k = 29
          · have hwd : wd ⟨opens, heads, false, many⟩ s = .ok ⟨opens, (k, n) :: heads, true, many + 1⟩ := by
              unfold wd
              rw [if_neg hbr, hop]
              simp [hm, hk]
            have hpn : pa ∉ bl vh := fun h => n1 (by simp [h])
            exact (word_head w hL B pa _ vo vh many _ s hsz h91 h93 hB hp hop (by omega) hk hh (by simp; omega) hpn).mono fun e w' ⟨he, vh', hp', hh', hu, hloc⟩ => by
              subst he
              rw [List.nodup_append, List.nodup_append] at n2
              refine WR.ok hwd hB (S := pa :: bl vh) (fun g hg => by rcases List.mem_cons.mp hg with rfl | h; exact hBp; exact (hmh g h).1) hA (fun g hg => hav g (by rcases List.mem_cons.mp hg with rfl | h <;> simp [*])) hu ⟨vo, vh', vs, F, hp', hBp, ?_, ?_, ?_, ?_, ?_⟩
              · exact hu.own ho (fun g hg => by
                  simp only [List.mem_cons, not_or]
                  exact ⟨fun e => n1 (by simp [← e, hg]), fun h => n2.2.2 g hg g (by simp [h]) rfl⟩)
              · simpa [headCells_append, headCells] using hh'
              · refine hst.frame (fun g hg => hu.block g (hmf g hg).2 ?_)
                simp only [List.mem_cons, not_or]
                exact ⟨fun e => n1 (by simp [← e, hg]), fun h => n2.2.1.2.2 g h g hg rfl⟩
              · have := nd_swap (X := pa :: bl vo) (v := vh) (v' := vh') (Y := F) (N := w.heap.size) hnd0 (fun g hg => by
                  simp only [List.mem_cons] at hg
                  rcases hg with (rfl | hg) | hg
                  · exact hpl
                  · exact (hmo g hg).2
                  · exact (hmf g hg).2) hloc
                exact this
              · have := av_swap (X := pa :: bl vo) (v := vh) (v' := vh') (Y := F) (N := w.heap.size) hav hA hloc
                exact this
          · obtain ⟨l, os, rfl⟩ : ∃ l os, opens = l :: os := by
              cases opens with
              | nil => simp at i2
              | cons l os => exact ⟨l, os, rfl⟩
            have hwd : wd ⟨l :: os, heads, false, many⟩ s = .ok ⟨l.snoc k n .nil :: os, heads, false, many + 1⟩ := by
              unfold wd
              rw [if_neg hbr, hop]
              simp [hm, hk]
            simp only [List.reverse_cons] at hst ho
            obtain ⟨v1, vs1, F3, F1, rfl, rfl, hst1, hv1⟩ := hst.unsnoc
            obtain ⟨xs, F1', rfl, hx1, hx2⟩ := hv1
            have ho2 : w.ownsRow B 102 1 vo (os.length + 1) (vs1 ++ [v1]) := by simpa using ho
            obtain ⟨go, co, rfl⟩ : ∃ go co, vo = .slice (some ⟨go, 0, none⟩) (os.length + 1) co := by
              rcases ho2.2 with ⟨_, h⟩ | ⟨g, c, _, h, _⟩
              · omega
              · exact ⟨g, c, h⟩
            simp only [bl_some] at hnd0 hmo hbl
            simp only [List.cons_append, List.nil_append] at hnd0
            obtain ⟨q1, hnd1⟩ := List.nodup_cons.mp hnd0
            obtain ⟨q2, q3⟩ := List.nodup_cons.mp hnd1
            have d1 : pa ≠ go := fun e => q1 (by simp [e])
            have d3 : pa ∉ bl v1 := fun h => q1 (by simp [h])
            have d5 : go ∉ bl v1 := fun h => q2 (by simp [h])
            have m1 : ∀ g, g ∈ bl vh ∨ g ∈ F3 ∨ g ∈ F1' → g ∉ pa :: go :: bl v1 := fun g hg => by
              simp only [List.mem_cons, not_or]
              refine ⟨fun e => q1 (by rw [← e]; rcases hg with hg | hg | hg <;> simp [hg]), fun e => q2 (by rw [← e]; rcases hg with hg | hg | hg <;> simp [hg]), fun h => ?_⟩
              rw [List.nodup_append, List.nodup_append, List.nodup_append] at q3
              rcases hg with hg | hg | hg
              · exact q3.2.2 g hg g (by simp [h]) rfl
              · exact q3.2.1.2.2 g hg g (by simp [h]) rfl
              · exact q3.2.1.2.1.2.2 g h g hg rfl
            have hlt : ∀ g, g ∈ F3 ∨ g ∈ F1' → g < w.heap.size := fun g hg => (hmf g (by rcases hg with hg | hg <;> simp [hg])).2
            exact (word_plain w hL B pa l.len os.length go co vh v1 many vs1 xs s hsz h91 h93 hB hp hop (by omega) (fun e => hk (.inl e)) (fun e => hk (.inr e)) ho2 hx1 (by simp at i3; omega) (by simp at i4; omega) d1 d3 d5).mono fun e w' ⟨he, v1', hp', ho', hv', hu, hloc⟩ => by
              subst he
              refine WR.ok hwd hB (S := pa :: go :: bl v1) (fun g hg => ?_) hA (fun g hg => hav g (by simp only [List.mem_cons] at hg; rcases hg with rfl | rfl | hg <;> simp [bl_some, *])) hu ⟨.slice (some ⟨go, 0, none⟩) (os.length + 1) co, vh, vs1 ++ [v1'], F3 ++ (bl v1' ++ F1'), hp', hBp, by simpa using ho', ?_, ?_, ?_, ?_⟩
              · simp only [List.mem_cons] at hg
                rcases hg with rfl | rfl | hg
                · exact hBp
                · exact hbl g (by simp)
                · exact (own_mem hx1 g hg).1
              · exact hu.own hh (fun g hg => m1 g (.inl hg))
              · simp only [List.reverse_cons]
                refine StackAt.snoc ⟨_, F1', rfl, by rw [Ops.len_snoc]; exact hv', ?_⟩ (hst1.frame (fun g hg => hu.block g (hlt g (.inl hg)) (m1 g (.inr (.inl hg)))))
                have := OpsAt.snoc (k := k) (n := n) (SliceAt.nil w' B) (hx2.frame (fun g hg => hu.block g (hlt g (.inr hg)) (m1 g (.inr (.inr hg)))))
                simpa using this
              · have := nd_swap (X := pa :: go :: (bl vh ++ F3)) (v := v1) (v' := v1') (Y := F1') (N := w.heap.size) (by simpa using hnd0) (fun g hg => by
                  simp only [List.mem_cons, List.mem_append] at hg
                  rcases hg with (rfl | rfl | hg | hg) | hg
                  · exact hpl
                  · exact (hmo g (by simp)).2
                  · exact (hmh g hg).2
                  · exact hlt g (.inl hg)
                  · exact hlt g (.inr hg)) hloc
                simpa [bl_some] using this
              · have := av_swap (X := pa :: go :: (bl vh ++ F3)) (v := v1) (v' := v1') (Y := F1') (N := w.heap.size) (by simpa [bl_some] using hav) hA hloc
                simpa [bl_some] using this
end Go.Proofs.YtpepmmfhanaipaaGreatDoor.Lang
end
section
namespace Go.Proofs.YtpepmmfhanaipaaGreatDoor.Lang
open Go.RowKit Go.Shelf
set_option linter.unusedVariables false
set_option linter.unusedSimpArgs false
def isPart (r : Nat) : Bool := r == 32 || r == 10
theorem parted_pays (w : World) : PredAtRunes Tryz.prog 173 #[] isPart w := fun W r hr hb => by
  unfold FnGives
  by_cases h1 : r = 32
  · subst h1
    go_enter Tryz.func173, Tryz.ntmps173
    go_wp2
    go_ret
    exact ⟨rfl, 0, rfl⟩
  · by_cases h2 : r = 10
    · subst h2
      go_enter Tryz.func173, Tryz.ntmps173
      go_wp2
      go_ret
      exact ⟨rfl, 0, rfl⟩
    · have e : isPart r = false := by simp [isPart, h1, h2]
      have h1b : ((r : Int) == 32) = false := by simp; omega
      have h2b : ((r : Int) == 10) = false := by simp; omega
      rw [e]
      clear e h1 h2
      go_enter Tryz.func173, Tryz.ntmps173
      go_wp2
      go_ret
      exact ⟨rfl, 0, rfl⟩
def wordsOf (s : ByteArray) : List ByteArray := Lib.goFieldsP isPart s
def st0 : St := ⟨[.nil], [], false, 0⟩
def parsed (s : ByteArray) : Except Int Ops :=
  if 512 < s.size then .error 2
  else match (wordsOf s).foldlM wd st0 with
    | .error c => .error c
    | .ok st => if st.heads ≠ [] then .error 6 else match st.opens with
      | [l] => .ok l
      | _ => .error 7
theorem wd_err {st : St} {s : ByteArray} {c : Int} (h : wd st s = .error c) : c = 7 ∨ c = 2 := by
  unfold wd at h
  repeat' split at h
  all_goals first
    | (cases h; simp; done)
    | cases h
theorem fold_snoc {ws : List ByteArray} {j : Nat} {x : ByteArray} (hx : ws[j]? = some x) {st : St} (h : (ws.take j).foldlM wd st0 = .ok st) : (ws.take (j + 1)).foldlM wd st0 = wd st x := by
  rw [List.take_add_one, hx, Option.toList_some, List.foldlM_append, h]
  simp [bind, Except.bind]
  cases wd st x <;> rfl
theorem fold_fail {ws : List ByteArray} {j : Nat} {x : ByteArray} (hx : ws[j]? = some x) {st : St} {c : Int} (h : (ws.take j).foldlM wd st0 = .ok st) (hw : wd st x = .error c) : ws.foldlM wd st0 = .error c := by
  have e : ws = ws.take (j + 1) ++ ws.drop (j + 1) := (List.take_append_drop _ _).symm
  rw [e, List.foldlM_append, fold_snoc hx h, hw]
  rfl
theorem word_size {s x : ByteArray} (h : x ∈ wordsOf s) : x.size ≤ s.size := by
  unfold wordsOf Lib.goFieldsP at h
  obtain ⟨p, -, rfl⟩ := List.mem_map.mp h
  rw [ByteArray.size_extract]
  omega
theorem own_maxlen {w : World} {B e size g n c : Nat} {xs : List Value} (h : w.ownsRow B e size (.slice (some ⟨g, 0, none⟩) n c) n xs) : n ≤ 9223372036854775807 := by
  rcases h.2 with ⟨h', _⟩ | ⟨g', cap', cur, h', _, _, hnc, hm, _⟩
  · simp at h'
  · simp only [Value.slice.injEq] at h'
    unfold maxLen at hm
    omega
theorem inv0 : Inv st0 := ⟨rfl, by decide, by decide, by decide, by decide⟩
set_option maxRecDepth 100000 in
set_option maxHeartbeats 4000000 in
theorem parse_calls (s : ByteArray) (w : World) (hL : Laid w) : Calls Tryz.prog 158 #[.string s] w fun e w' => Below w.heap.size w w' ∧ (∀ c, parsed s = .error c → e = .returned (.tuple #[.slice none 0 0, .int .i64 c])) ∧
    (∀ l, parsed s = .ok l → ∃ v F, e = .returned (.tuple #[v, .int .i64 0]) ∧ SliceAt w' w.heap.size l v F ∧ F.Nodup) := by
  by_cases hsz : 512 < s.size
  · have hpd : parsed s = .error 2 := by unfold parsed; rw [if_pos hsz]
    have HPD := Aside.mk hpd
    have b1 : decide ((512 : Int) < (s.size : Int)) = true := decide_eq_true (by omega)
    have b2 : decide (512 < s.size) = true := decide_eq_true hsz
    clear hpd hsz
    go_enter Tryz.func158, Tryz.ntmps158
    go_wp2
    go_ret2
    exact ⟨Below.refl _ _, fun c h => by rw [HPD.out] at h; cases h; rfl, fun l h => by rw [HPD.out] at h; cases h⟩
  · have b1 : decide ((512 : Int) < (s.size : Int)) = false := decide_eq_false (by omega)
    have b2 : decide (512 < s.size) = false := decide_eq_false hsz
    have hff := Tryz.strings_FieldsFunc_runes 173 #[] (enters_of Tryz.func173 (by kernel_rfl) rfl) isPart s
    have HFF := Aside.mk hff
    have HSZ := Aside.mk hsz
    clear hff hsz
    go_enter Tryz.func158, Tryz.ntmps158
    go_upto_region 4 with (fail)
    -- the parser as it begins
    obtain ⟨B, hBq⟩ : ∃ B, B = w.heap.size := ⟨_, rfl⟩
    obtain ⟨W1, hW1⟩ : ∃ W1, W1 = (w.alloc (.cells #[.slice none 0 0] 102)).alloc (.cells #[.slice (some ⟨w.heap.size, 0, none⟩) 1 1, .slice none 0 0, .bool false, .int .i64 0] 244) := ⟨_, rfl⟩
    have hbel1 : Below w.heap.size w W1 := by rw [hW1]; exact ((Below.refl _ w).alloc (Nat.le_refl _) _).alloc (by simp) _
    have hs1 : W1.heap.size = w.heap.size + 2 := by rw [hW1]; simp
    have hpa : W1.heap[w.heap.size + 1]? = some (.cells #[.slice (some ⟨w.heap.size, 0, none⟩) 1 1, .slice none 0 0, .bool false, .int .i64 0] 244 (0, 0)) := by
      rw [hW1]
      exact heap_alloc2_new w _ _
    have hgo : W1.heap[w.heap.size]? = some (.cells #[.slice none 0 0] 102 (0, 0)) := by
      rw [hW1, heap_alloc_old _ _ (by simp)]
      exact heap_alloc_new w _
    have hps : ∀ Av : Nat → Prop, (∀ g, Av g → W1.heap.size ≤ g) → PSt W1 B (w.heap.size + 1) Av st0 := fun Av hAv => by
      refine ⟨_, _, [.slice none 0 0], [], hpa, by omega, ⟨rfl, .inr ⟨w.heap.size, 1, _, rfl, by omega, hgo, Nat.le_refl _, by unfold maxLen; omega, rfl, rfl⟩⟩, World.ownsRow_nil W1 B 199 3, ⟨.slice none 0 0, [], [], [], rfl, rfl, SliceAt.nil W1 B, rfl, rfl⟩, ?_, ?_⟩
      · simp [bl, Value.ownBlock]
      · intro g hg ha
        have := hAv g ha
        simp [bl, Value.ownBlock] at hg
        omega
    rw [← hW1]
    have HL1 := Aside.mk (hL.below hbel1)
    have HB1 := Aside.mk hbel1
    have HS1 := Aside.mk hs1
    have HPS1 := Aside.mk hps
    obtain ⟨pa, hpaq⟩ : ∃ pa, pa = w.heap.size + 1 := ⟨_, rfl⟩
    rw [← hpaq] at HPS1 ⊢
    rw [← hBq] at HB1 HS1 hpaq ⊢
    have HBW := Aside.mk hBq
    clear hpa hgo hps hW1 hs1 hbel1 hBq
    go_upto_region 5 with (first | (go_at_call 172; refine (HFF.out W1 (by have := HSZ.out; omega) (parted_pays W1)).mono ?_; rintro e w2 ⟨A, rfl, hA, hrow, hb2⟩; have HA := Aside.mk hA; have HR := Aside.mk hrow; have HB2 := Aside.mk hb2; clear hA hrow hb2))
    -- the words' row
    obtain ⟨ws, hws⟩ : ∃ ws, ws = wordsOf s := ⟨_, rfl⟩
    have HWS := Aside.mk hws
    rw [show Lib.goFieldsP isPart s = ws from hws.symm] at HR ⊢
    clear hws
    have hBA : B ≤ A := Nat.le_trans (by have := HS1.out; have := HBW.out; omega) HA.out
    have HPS2 : Aside (PSt w2 B pa (· = A) st0) := by
      obtain ⟨vo, vh, vs, F, q1, q2, q3, q4, q5, q6, q7⟩ := (HPS1.out (· = A) (fun g hg => hg ▸ HA.out)).out
      refine ⟨⟨vo, vh, vs, F, (HB2.out.block _ (blk_lt' q1)).trans q1, q2, own_frame q3 (fun g hg => HB2.out.block g (own_mem q3 g hg).2), own_frame q4 (fun g hg => HB2.out.block g (own_mem q4 g hg).2), q5.frame (fun g hg => HB2.out.block g (q5.mem g hg).2), q6, q7⟩⟩
    have HB3 := Aside.mk (show Below B w w2 from (HBW.out ▸ HB1.out : Below B w W1).trans (HB2.out.mono (by have := HS1.out; have := HBW.out; omega)))
    have HAl : Aside (A < w2.heap.size) := ⟨(own_mem HR.out A (by simp [bl_some])).2⟩
    have HRA : Aside (w2.ownsRow B 9 1 (.slice (some ⟨A, 0, none⟩) ws.length ws.length) ws.length (ws.map Value.string)) := by
      obtain ⟨h1, h2⟩ := HR.out
      refine ⟨⟨h1, ?_⟩⟩
      rcases h2 with h | ⟨g, cap, cur, e, hb, hg, rest⟩
      · exact .inl h
      · exact .inr ⟨g, cap, cur, e, Nat.le_trans (by have := HS1.out; have := HBW.out; omega) hb, hg, rest⟩
    have HLW := Aside.mk hL
    rw [← hpaq]
    clear hpaq HPS1 HFF hL HL1
    go_loopg [17] (ws.length + 1) (fun kq v17 w' => ∃ (j : Nat) (st : St), v17 = .int .i64 (j : Int) ∧ Aside (j + kq = ws.length + 1 ∧ j ≤ ws.length) ∧ Aside ((ws.take j).foldlM wd st0 = .ok st) ∧ Aside (Inv st) ∧ Aside (PSt w' B pa (· = A) st) ∧ Aside (Below B w w') ∧
      Aside (w'.ownsRow B 9 1 (.slice (some ⟨A, 0, none⟩) ws.length ws.length) ws.length (ws.map Value.string)))
    case atStart => exact ⟨0, st0, rfl, ⟨by omega⟩, ⟨rfl⟩, ⟨inv0⟩, HPS2, HB3, HRA⟩
    case round =>
      clear HPS2 HB3 HRA HB2 HR
      obtain ⟨j, st, rfl, HJ, HF, HI, HP, HB, HRW⟩ := hrel
      cases gk with
      | zero => have := HJ.out; omega
      | succ k1 =>
        have hmx := own_maxlen HRW.out
        by_cases hj : j < ws.length
        · have hjb := decide_eq_true (show (j : Int) < (ws.length : Int) by omega)
          have p1 := eq_true (show 0 ≤ (j : Int) by omega)
          have q1 := eq_true (show (j : Int) < (ws.length : Int) by omega)
          have hwj : wrap64 ((j : Int) + 1) = (j : Int) + 1 := by
            unfold wrap64
            omega
          have hwj2 : IntKind.i64.wrap ((j : Int) + 1) = (j : Int) + 1 := by
            rw [IntKind.wrap_i64]
            omega
          obtain ⟨x, hx⟩ : ∃ x, ws[j]? = some x := ⟨_, List.getElem?_eq_getElem hj⟩
          have HX := Aside.mk hx
          have hc := own_cell HRW.out (j := j) (x := .string x) (by rw [List.getElem?_map, hx]; rfl)
          have hxs : x.size ≤ 512 := by
            have h1 := word_size (s := s) (x := x) (HWS.out ▸ List.mem_of_getElem? hx)
            have := HSZ.out
            omega
          have hAw : A < wr.heap.size := (own_mem HRW.out A (by simp [bl_some])).2
          have hwc := word_calls wr (HLW.out.below (HBW.out ▸ HB.out)) B pa (· = A) (fun g hg => by subst hg; exact hAw) st (by have := HB.out.size; have := HBW.out; omega) HI.out HP.out x (by omega)
          clear hx
          have HWC := Aside.mk hwc
          clear hwc hxs hAw hj
          cases hwd : wd st x with
          | error c =>
            have hc0 : (c != 0) = true := by rcases wd_err hwd with rfl | rfl <;> rfl
            have HPD := Aside.mk (show parsed s = .error c by
              unfold parsed
              rw [if_neg HSZ.out, ← HWS.out, fold_fail HX.out HF.out hwd])
            have HWD := Aside.mk hwd
            clear hwd
            go_wp2_with (first | (go_at_call 174; refine HWC.out.mono ?_; rintro e w3 ⟨hb3, -, he, -⟩; obtain rfl := he c HWD.out; have HB3 := Aside.mk hb3; clear hb3 he))
            go_ret2
            exact ⟨HBW.out ▸ (HB.out.trans HB3.out), fun c' h => (by rw [HPD.out] at h; cases h; rfl), fun l h => (by rw [HPD.out] at h; cases h)⟩
          | ok st' =>
            have HWD := Aside.mk hwd
            clear hwd
            go_wp2_with (first | (go_at_call 174; refine HWC.out.mono ?_; rintro e w3 ⟨hb3, hav, -, he⟩; obtain ⟨rfl, hps'⟩ := he st' HWD.out; have HB3 := Aside.mk hb3; have HAV := Aside.mk hav; have HPS' := Aside.mk hps'; clear hb3 he hav hps'))
            go_roundg k1
            case measure => omega
            case rel => exact ⟨j + 1, st', by simp; done, ⟨by have := HJ.out; have := (List.getElem?_eq_some_iff.mp HX.out).1; omega⟩, ⟨(fold_snoc HX.out HF.out).trans HWD.out⟩, ⟨HI.out.wd HWD.out⟩, HPS', ⟨HB.out.trans HB3.out⟩, ⟨own_frame HRW.out (fun g hg => HAV.out g (by simpa [bl_some] using hg))⟩⟩
        · have hjb := decide_eq_false (show ¬ (j : Int) < (ws.length : Int) by omega)
          have hjb2 := decide_eq_false hj
          have hfold : ws.foldlM wd st0 = .ok st := by
            have := HF.out
            rwa [List.take_of_length_le (by omega)] at this
          obtain ⟨opens, heads, waits, many⟩ := st
          obtain ⟨vo, vh, vs, F, q1, q2, q3, q4, q5, q6, q7⟩ := HP.out.out
          obtain ⟨Ah, ch, rfl⟩ := own_slice q4
          obtain ⟨c0, c1, c2, c3, f0, f1, f2, f3⟩ := blk4 q1
          simp only [List.length_reverse] at c1
          have HQ5 := Aside.mk q5
          have HQ6 := Aside.mk q6
          have hpos : 0 < opens.length := HI.out.pos
          cases heads with
          | cons p hs =>
            have hl1 : decide ((0 : Int) < ((hs.length + 1 : Nat) : Int)) = true := decide_eq_true (by omega)
            have hl2 : decide ((0 : Int) < (hs.length : Int) + 1) = true := decide_eq_true (by omega)
            have hl3 : decide (0 < hs.length + 1) = true := decide_eq_true (by omega)
            have HPD := Aside.mk (show parsed s = .error 6 by
              unfold parsed
              rw [if_neg HSZ.out, ← HWS.out, hfold]
              simp)
            clear hfold q1 q2 q3 q4 q5 q6 q7 hj
            simp only [List.length_cons] at c1
            go_wp2
            go_ret2
            exact ⟨HBW.out ▸ HB.out, fun c' h => (by rw [HPD.out] at h; cases h; rfl), fun l h => (by rw [HPD.out] at h; cases h)⟩
          | nil =>
            obtain ⟨l, rfl⟩ : ∃ l, opens = [l] := by
              have h1 := HI.out.len
              simp only [List.length_nil] at h1
              match opens, hpos, h1 with
              | [l], _, _ => exact ⟨l, rfl⟩
              | _ :: _ :: _, _, h => simp at h; split at h <;> omega
            have HPD := Aside.mk (show parsed s = .ok l by
              unfold parsed
              rw [if_neg HSZ.out, ← HWS.out, hfold]
              simp)
            obtain ⟨v, vs', F1, F2, rfl, rfl, h1, rfl, rfl⟩ : StackAt wr B [l] vs F := q5
            obtain ⟨go, co, rfl⟩ : ∃ go co, vo = .slice (some ⟨go, 0, none⟩) 1 co := by
              rcases q3.2 with ⟨_, h⟩ | ⟨g, c, _, h, _⟩
              · simp at h
              · exact ⟨g, c, h⟩
            have b0 := own_cell (n := 1) q3 (j := 0) (x := v) rfl
            have HS := Aside.mk h1
            have HN := Aside.mk (show F1.Nodup by
              rw [List.append_nil, List.nodup_cons, List.nodup_append, List.nodup_append] at q6
              exact q6.2.2.1.2.1)
            clear hfold q1 q2 q3 q4 q6 q7 hj HQ5 HQ6 h1
            simp only [List.length_nil] at c1
            go_wp2
            go_ret2
            exact ⟨HBW.out ▸ HB.out, fun c' h => (by rw [HPD.out] at h; cases h), fun l h => (by rw [HPD.out] at h; cases h; exact ⟨v, rfl, F1, HBW.out ▸ HS.out, HN.out⟩)⟩
end Go.Proofs.YtpepmmfhanaipaaGreatDoor.Lang
end
