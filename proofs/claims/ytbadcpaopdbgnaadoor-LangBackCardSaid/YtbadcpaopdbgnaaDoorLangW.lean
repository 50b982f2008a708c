/-
  Walks: the page's Parse whole; ops of one's own that are written over.
-/
import Derived.Test.YtbadcpaopdbgnaaDoorLangV
import Derived.Test.YtbadcpaopdbgnaaDoorLangO
namespace Go.Proofs.YtbadcpaopdbgnaaDoor.Lang
open Go.RowKit Go.Shelf
set_option linter.unusedVariables false
set_option linter.unusedSimpArgs false

theorem splitAt_len (l : List UInt8) : (splitAt l).1.length ≤ l.length := by
  rcases List.eq_nil_or_concat l with rfl | ⟨m, c, rfl⟩
  · simp [splitAt]
  · rw [List.concat_eq_append, splitAt_snoc]
    have ih := splitAt_len m
    unfold splitStep
    split
    · split <;> simp <;> omega
    · simp; omega
termination_by l.length
decreasing_by subst_vars; simp
theorem refSplit_len (s : ByteArray) : (refSplit s).length ≤ s.size + 1 := by
  have h1 := splitEnd_len (splitAt s.data.toList)
  have h2 := splitAt_len s.data.toList
  have h3 : s.data.toList.length = s.size := rfl
  unfold refSplit
  omega
theorem refSplit_size {s x : ByteArray} (h : x ∈ refSplit s) : x.size ≤ s.size := by
  rw [refSplit_eq] at h
  exact word_size h
theorem own_wd {w : World} {B : Nat} {v : Value} {ws : List ByteArray} (h : w.ownsRow B 9 1 v ws.length (ws.map Value.string)) (hl : ws.length ≤ 1000000) (hB : B ≤ w.heap.size) (hpos : 0 < w.heap.size) : ∃ gw, gw < w.heap.size ∧ Wd w gw v ws := by
  rcases h.2 with ⟨rfl, h0⟩ | ⟨g, cap, cur, rfl, hb, hg, hnc, _⟩
  · obtain rfl := List.length_eq_zero_iff.mp h0
    exact ⟨0, hpos, none, 0, rfl, by simp, by simp, by simp⟩
  · refine ⟨g, blk_lt' hg, some ⟨g, 0, none⟩, cap, rfl, hl, hnc, fun _ => ⟨0, rfl, fun i hi => ?_⟩⟩
    have := own_cell h (j := i) (x := .string (ws[i]'hi)) (by rw [List.getElem?_map, List.getElem?_eq_getElem hi]; rfl)
    rwa [Nat.zero_add]
/-- What the page's Parse leaves. -/
structure RP (w : World) (s : ByteArray) (e : Ending) (w' : World) : Prop where mk ::
  below : Below w.heap.size w w'
  err : ∀ c, refParsed s = .error c → e = .returned (.tuple #[.slice none 0 0, .int .i64 c])
  ok : ∀ l, refParsed s = .ok l → ∃ v, e = .returned (.tuple #[v, .int .i64 0]) ∧ Rd w' v l
theorem BP.rp {w W w' : World} {s : ByteArray} {pp gw : Nat} {e : Ending} (hs : ¬ 512 < s.size) (h : BP W pp gw (blk ((refSplit s).length + 1) 0 0 (refSplit s) .nil) e w') (hb : Below w.heap.size w W) (hpp : w.heap.size ≤ pp) : RP w s e w' := by
  refine ⟨hb.trans (h.upd.below hb.size (fun g hg => by simp at hg; omega)), fun c hc => ?_, fun l hl => ?_⟩
  · unfold refParsed at hc
    rw [if_neg hs] at hc
    split at hc
    · rename_i c' hx
      cases hc
      exact h.err _ hx
    · cases hc
  · unfold refParsed at hl
    rw [if_neg hs] at hl
    split at hl
    · cases hl
    · rename_i x hx
      obtain ⟨t, r, m⟩ := x
      cases hl
      obtain ⟨v, F, vl, he, hsl, _⟩ := h.ok t r m hx
      exact ⟨v, he, hsl.rd⟩
set_option maxRecDepth 100000 in
set_option maxHeartbeats 4000000 in
theorem refparse_calls (s : ByteArray) (w : World) (hpos : 0 < w.heap.size) : Calls Tryd.prog 9 #[.string s] w (RP w s) := by
  by_cases hsz : 512 < s.size
  · have HRE := Aside.mk (show refParsed s = .error 2 by unfold refParsed; rw [if_pos hsz])
    have b1 : decide ((512 : Int) < (s.size : Int)) = true := decide_eq_true (by omega)
    have b2 : decide (512 < s.size) = true := decide_eq_true hsz
    clear hsz
    go_enter Tryd.func9, Tryd.ntmps9
    go_wp2
    go_ret2
    exact ⟨Below.refl _ _, fun c h => (by rw [HRE.out] at h; cases h; rfl), fun l h => (by rw [HRE.out] at h; cases h)⟩
  · have b1 : decide ((512 : Int) < (s.size : Int)) = false := decide_eq_false (by omega)
    have b2 : decide (512 < s.size) = false := decide_eq_false hsz
    have HSZ := Aside.mk hsz
    have HPO := Aside.mk hpos
    clear hsz hpos
    go_enter Tryd.func9, Tryd.ntmps9
    go_upto_region 4 with (first | (go_at_call 25; refine (split_calls s _ (by have := HSZ.out; omega)).mono ?_; rintro e w1 ⟨v, rfl, ho, hb⟩; obtain ⟨Av, cv, rfl⟩ := own_slice ho; have HO := Aside.mk ho; have HB := Aside.mk hb; clear ho hb))
    obtain ⟨v, hv⟩ : ∃ v, v = Value.slice Av (refSplit s).length cv := ⟨_, rfl⟩
    rw [← hv] at HO ⊢
    obtain ⟨gw, hgw, hwd⟩ := own_wd HO.out (by have := refSplit_len s; have := HSZ.out; omega) HB.out.size (Nat.lt_of_lt_of_le HPO.out HB.out.size)
    obtain ⟨pp, hpp⟩ : ∃ pp, pp = w1.heap.size := ⟨_, rfl⟩
    have hp0 : (w1.alloc (.cells #[v, .int .i64 0] 59)).heap[pp]? = some (.cells #[v, .int .i64 ((0 : Nat) : Int)] 59 (0, 0)) := hpp ▸ heap_alloc_new w1 _
    have hc1 := block_calls _ ((refSplit s).length + 1) 0 0 (refSplit s) _ v pp gw (Nat.le_refl _) (by omega) (by omega) (by omega) hp0 (hwd.frame (heap_alloc_old w1 _ hgw)) (by omega) (by simp; omega) (fun x hx => by have := refSplit_size hx; have := HSZ.out; omega)
    have HC := Aside.mk (show Calls Tryd.prog 26 #[.pointer (some ⟨pp, 0, none⟩), .int .i64 0] _ _ from hc1)
    have HB1 := Aside.mk (HB.out.alloc HB.out.size (.cells #[v, .int .i64 0] 59))
    have HPP := Aside.mk (show w.heap.size ≤ pp by rw [hpp]; exact HB.out.size)
    rw [← hpp]
    clear hgw hwd hp0 hc1 hpp hv
    generalize w1.alloc (.cells #[v, .int .i64 0] 59) = W at HC HB1 ⊢
    have hcv : ∀ e w', BP W pp gw (blk ((refSplit s).length + 1) 0 0 (refSplit s) .nil) e w' → ∃ v c, e = .returned (.tuple #[v, .int .i64 c]) ∧ RP w s (.returned (.tuple #[v, .int .i64 c])) w' := fun e w' h => by
      have hrp := h.rp HSZ.out HB1.out HPP.out
      cases hx : blk ((refSplit s).length + 1) 0 0 (refSplit s) .nil with
      | error c => obtain rfl := h.err c hx; exact ⟨_, c, rfl, hrp⟩
      | ok x => obtain ⟨t, r, m⟩ := x; obtain ⟨v, F, vl, rfl, _⟩ := h.ok t r m hx; exact ⟨v, 0, rfl, hrp⟩
    have HCV := Aside.mk hcv
    clear hcv
    go_wp2_with (first | (go_at_call 26; refine HC.out.mono ?_; intro e w5 hbp; obtain ⟨v5, c5, rfl, hrp⟩ := HCV.out e w5 hbp; have HRP := Aside.mk hrp; clear hbp hrp))
    go_ret2
    exact HRP.out

theorem own_live2 {w : World} {B e g n c : Nat} {xs : List Value} (h : w.ownsRow B e 3 (.slice (some ⟨g, 0, none⟩) n c) n xs) : w.frozen? ⟨g, 0, none⟩ = false := own_live h 0
set_option maxRecDepth 100000 in
set_option maxHeartbeats 8000000 in
/-- Ops of one's own are written over: no other block turns. -/
theorem spoil_calls : ∀ (N : Nat) (l : Ops) (v : Value) (w : World) (B : Nat) (F : List Nat), l.size < N → SliceAt w B l v F → F.Nodup → Calls Tryd.prog 12 #[v] w fun e w' => e = .returned (.tuple #[]) ∧ Upd w w' F := by
  intro N
  induction N with
  | zero => intro l v w B F h; omega
  | succ N ih =>
    intro l v w B F hN hs hn
    have IH := Aside.mk ih
    obtain ⟨xs, F', hF, ho, hx⟩ := hs
    obtain ⟨A, c, rfl⟩ := own_slice ho
    obtain ⟨g, hg⟩ : ∃ g, 0 < l.len → A = some ⟨g, 0, none⟩ ∧ g ∈ F ∧ (∃ cs, w.heap[g]? = some (.cells cs 62 (0, 0))) ∧ ∀ j x, xs[j]? = some x → w.cell? ⟨g, j, none⟩ = some x := by
      rcases ho.2 with ⟨_, h⟩ | ⟨g, cap, cur, e, hb, hgc, _⟩
      · exact ⟨0, fun h' => by omega⟩
      · simp only [Value.slice.injEq] at e
        obtain ⟨rfl, -, rfl⟩ := e
        exact ⟨g, fun _ => ⟨rfl, by rw [hF, bl_some]; simp, ⟨_, hgc⟩, fun j x h => own_cell ho h⟩⟩
    have hgF : 0 < l.len → g ∉ F' := fun h h' => by
      obtain ⟨rfl, -⟩ := hg h
      rw [hF, bl_some, List.singleton_append, List.nodup_cons] at hn
      exact hn.1 h'
    have hnF : F'.Nodup := by rw [hF] at hn; exact (List.nodup_append.mp hn).2.1
    have hsub : ∀ x ∈ F', x ∈ F := fun x h => by rw [hF]; exact List.mem_append.mpr (.inr h)
    obtain ⟨n, hnl⟩ : ∃ n, n = l.len := ⟨_, rfl⟩
    rw [← hnl] at ho hg hgF ⊢
    have hmx : n ≤ 9223372036854775807 := by
      rcases ho.2 with ⟨_, h⟩ | ⟨g, cap, cur, _, _, _, hnc, hm, _⟩
      · omega
      · unfold maxLen at hm; omega
    have HG := Aside.mk hg
    have HX := Aside.mk hx
    have HNL := Aside.mk hnl
    have HGF := Aside.mk hgF
    have HNF := Aside.mk hnF
    have HSUB := Aside.mk hsub
    have HNN := Aside.mk hN
    clear ih hF ho hx hg hgF hnF hsub hn hnl hN
    go_enter Tryd.func12, Tryd.ntmps12
    go_wp2
    go_loopg [2] (n + 1) (fun kq v2 w' => ∃ (i : Nat) (li : Ops) (xi : List Value) (Fi : List Nat), v2 = .int .i64 (i : Int) ∧ Aside (i + kq = n + 1 ∧ i + li.len = n ∧ li.size ≤ l.size) ∧ Aside (OpsAt w' B li xi Fi) ∧ Aside (Fi.Nodup ∧ (0 < n → g ∉ Fi) ∧ ∀ x ∈ Fi, x ∈ F) ∧
      Aside (0 < n → (∃ cs, w'.heap[g]? = some (.cells cs 62 (0, 0))) ∧ ∀ j x, xi[j]? = some x → w'.cell? ⟨g, i * 3 + j, none⟩ = some x) ∧ Aside (Upd w w' F))
    case atStart => exact ⟨0, l, xs, F', rfl, ⟨by omega, by have := HNL.out; omega, Nat.le_refl _⟩, HX, ⟨HNF.out, HGF.out, HSUB.out⟩, ⟨fun h => ⟨(HG.out h).2.2.1, fun j x hj => by rw [Nat.zero_mul, Nat.zero_add]; exact (HG.out h).2.2.2 j x hj⟩⟩, ⟨Upd.refl _ _⟩⟩
    case round =>
      clear HX HGF HNF HSUB
      obtain ⟨i, li, xi, Fi, rfl, HI, HX, HF, HC, HU⟩ := hrel
      cases gk with
      | zero => have := HI.out; omega
      | succ k1 =>
        cases li with
        | nil =>
          have hin : i = n := by have := HI.out.2.1; simpa [Ops.len] using this
          subst hin
          go_wp2
          go_end0
          exact ⟨rfl, HU.out⟩
        | cons k m b r =>
          have hi : i < n := by have := HI.out.2.1; simp only [Ops.len] at this; omega
          obtain ⟨rfl, hgm, -, -⟩ := HG.out (by omega)
          obtain ⟨⟨cs, hgc⟩, hcc⟩ := HC.out (by omega)
          obtain ⟨vb, ys, xs', Fb, Fr, rfl, rfl, hob, hbb, hr⟩ := HX.out
          obtain ⟨hnd, hgn, hsub⟩ := HF.out
          have hib := decide_eq_true (show (i : Int) < (n : Int) by omega)
          have hib2 := decide_eq_true hi
          have p1 := eq_true (show 0 ≤ (i : Int) by omega)
          have q1 := eq_true (show (i : Int) < (n : Int) by omega)
          have hwi : IntKind.i64.wrap ((i : Int) + 1) = (i : Int) + 1 := by
            rw [IntKind.wrap_i64]
            omega
          have c0 := hcc 0 _ rfl
          have c1 := hcc 1 _ rfl
          have c2 := hcc 2 _ rfl
          rw [Nat.add_zero] at c0
          obtain ⟨Ab, cb, rfl⟩ := own_slice hob
          have hsp := IH.out b (.slice Ab b.len cb) wr B (bl (.slice Ab b.len cb) ++ Fb) (by have h1 := HI.out.2.2; have h2 := HNN.out; simp only [Ops.size] at h1; omega) ⟨ys, Fb, rfl, hob, hbb⟩ (List.nodup_append.mp hnd).1
          have HSP := Aside.mk hsp
          have HGC := Aside.mk hgc
          have HCC := Aside.mk hcc
          have HR := Aside.mk hr
          have HNDX := Aside.mk hnd
          have HGN := Aside.mk (hgn (by omega))
          clear hsp hgc hcc hr hnd hgn hob hbb c0 c1
          go_wp2_with (first | (go_at_call 12; go_must (refine HSP.out.mono ?_; rintro e w2 ⟨rfl, hu⟩; have hgg := hu.block g (blk_lt' HGC.out) (fun h => HGN.out (List.mem_append.mpr (.inl h))); have d0 := (World.cell?_of_block (a := ⟨g, i * 3, none⟩) hgg).trans (HCC.out 0 _ rfl); have d1 := (World.cell?_of_block (a := ⟨g, i * 3 + 1, none⟩) hgg).trans (HCC.out 1 _ rfl); have d2 := (World.cell?_of_block (a := ⟨g, i * 3 + 2, none⟩) hgg).trans (HCC.out 2 _ rfl); have hgc2 := hgg.trans HGC.out; have e0 := blk_frozen hgc2 (i * 3); have e1 := blk_frozen hgc2 (i * 3 + 1); have e2 := blk_frozen hgc2 (i * 3 + 2); have HGG := Aside.mk hgg; have HU2 := Aside.mk hu; clear hu hgg hgc2)))
          have hgl : ∀ x, ∃ cs, (((w2.setCell ⟨g, i * 3, none⟩ (.int .i64 (-9))).setCell ⟨g, i * 3 + 1, none⟩ (.int .i64 0)).setCell ⟨g, i * 3 + 2, none⟩ x).heap[g]? = some (.cells cs 62 (0, 0)) := fun x => ⟨_, set_at (set_at (set_at (HGG.out.trans HGC.out) _) _) _⟩
          have hfar : ∀ x j, j ≠ g → (((w2.setCell ⟨g, i * 3, none⟩ (.int .i64 (-9))).setCell ⟨g, i * 3 + 1, none⟩ (.int .i64 0)).setCell ⟨g, i * 3 + 2, none⟩ x).heap[j]? = w2.heap[j]? := fun x j hj => by
            rw [Below.heap_setCell _ _ _ _ hj, Below.heap_setCell _ _ _ _ hj, Below.heap_setCell _ _ _ _ hj]
          have HNA := List.nodup_append.mp HNDX.out
          have HUS := Aside.mk (fun x => (((HU.out.trans HU2.out (fun y hy _ => hsub y (List.mem_append.mpr (.inl hy)))).trans (Upd.set (w := w2) (p := ⟨g, i * 3, none⟩) (S := F) hgm (.int .i64 (-9))) (fun y hy _ => hy)).trans (Upd.set (p := ⟨g, i * 3 + 1, none⟩) (S := F) hgm (.int .i64 0)) (fun y hy _ => hy)).trans (Upd.set (p := ⟨g, i * 3 + 2, none⟩) (S := F) hgm x) (fun y hy _ => hy))
          go_roundg k1
          case measure => omega
          case rel => exact ⟨i + 1, r, xs', Fr, by simp; done, ⟨by have := HI.out; omega, by have := HI.out.2.1; simp only [Ops.len] at this; omega, by have := HI.out.2.2; simp only [Ops.size] at this; omega⟩, ⟨HR.out.frame (fun y hy => (hfar _ y (fun e => HGN.out (List.mem_append.mpr (.inr (e ▸ hy))))).trans (HU2.out.block y (HR.out.mem y hy).2 (fun h => HNA.2.2 y h y hy rfl)))⟩, ⟨HNA.2.1, fun _ h => HGN.out (List.mem_append.mpr (.inr h)), fun y hy => hsub y (List.mem_append.mpr (.inr hy))⟩, ⟨fun _ => ⟨hgl _, fun j x hj => by
            have key : ∀ (o : Nat) (u : Value) (W : World), o < (i + 1) * 3 → (W.setCell ⟨g, o, none⟩ u).cell? ⟨g, (i + 1) * 3 + j, none⟩ = W.cell? ⟨g, (i + 1) * 3 + j, none⟩ := fun o u W ho => World.cell?_setCell_other W _ _ u (by intro e; have := congrArg Addr.off e; simp only at this; omega)
            rw [key _ _ _ (by omega), key _ _ _ (by omega), key _ _ _ (by omega), World.cell?_of_block (a := ⟨g, (i + 1) * 3 + j, none⟩) HGG.out]
            have := HCC.out (j + 3) x (by simpa using hj)
            rwa [show i * 3 + (j + 3) = (i + 1) * 3 + j by omega] at this⟩⟩, ⟨HUS.out _⟩⟩
end Go.Proofs.YtbadcpaopdbgnaaDoor.Lang
