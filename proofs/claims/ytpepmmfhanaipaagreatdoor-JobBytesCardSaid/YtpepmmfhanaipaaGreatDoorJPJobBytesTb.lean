-- Put together by mergex.py out of this workplace's texts.
import Derived.Test.YtpepmmfhanaipaaGreatDoorJPJobBytesTa
import Derived.Test.YtpepmmfhanaipaaGreatDoorJPJobBytesx5
namespace Go.Proofs.YtpepmmfhanaipaaGreatDoor.PJobBytes
open Go.RowKit Go.Proofs.YtpepmmfhanaipaaGreatDoorW.PrintWords Go.Proofs.YtpepmmfhanaipaaGreatDoorW.PrintLast Go.Proofs.YtpepmmfhanaipaaGreatDoorW.PrintMore
set_option linter.unusedVariables false
set_option linter.unusedSimpArgs false
structure Tp (w W : World) (rv g jb : Nat) (s : ByteArray) (e : Int) (cs : Array Value) : Prop where
  rd : IsS120 w W g s e
  res : W.heap[rv]? = some (.cells #[.int .i64 0, .string ⟨#[]⟩, .int .i64 0, .int .i64 0, .int .i64 0, .slice none 0 0, .int .i64 0] 63 (0, 0))
  job : W.heap[jb]? = some (.cells cs 63 (0, 0))
  bel : Below w.heap.size w W
  n1 : rv ≠ g
  n2 : jb ≠ g
  n3 : jb ≠ rv
  b1 : w.heap.size ≤ jb
  b2 : w.heap.size ≤ rv
theorem Tp.call {w W W' : World} {rv g jb : Nat} {s s' : ByteArray} {e e' : Int} {cs : Array Value} (h : Tp w W rv g jb s e cs) (hi : IsS120 w W' g s' e') (hb : Below w.heap.size w W') (hk : KeepBut W W' g none) : Tp w W' rv g jb s' e' cs :=
  ⟨hi, hk.blk h.res h.n1 (by simp), hk.blk h.job h.n2 (by simp), hb, h.n1, h.n2, h.n3, h.b1, h.b2⟩
theorem Tp.set {w W : World} {rv g jb : Nat} {s : ByteArray} {e : Int} {cs : Array Value} (h : Tp w W rv g jb s e cs) (j : Nat) (v : Value) : Tp w (W.setCell ⟨jb, j, none⟩ v) rv g jb s e (cs.setIfInBounds j v) :=
  ⟨h.rd.far (p := ⟨jb, j, none⟩) (fun e => h.n2 e.symm) v, (Below.heap_setCell W ⟨jb, j, none⟩ v rv (fun e => h.n3 e.symm)).trans h.res, tk_set h.job v, h.bel.setCell (p := ⟨jb, j, none⟩) h.b1 v, h.n1, h.n2, h.n3, h.b1, h.b2⟩
theorem Tp.set_0 {w W : World} {rv g jb : Nat} {s : ByteArray} {e : Int} {a0 a1 a2 a3 a4 a5 a6 : Value} (h : Tp w W rv g jb s e #[a0, a1, a2, a3, a4, a5, a6]) (v : Value) : Tp w (W.setCell ⟨jb, 0, none⟩ v) rv g jb s e #[v, a1, a2, a3, a4, a5, a6] := h.set 0 v
theorem Tp.set_1 {w W : World} {rv g jb : Nat} {s : ByteArray} {e : Int} {a0 a1 a2 a3 a4 a5 a6 : Value} (h : Tp w W rv g jb s e #[a0, a1, a2, a3, a4, a5, a6]) (v : Value) : Tp w (W.setCell ⟨jb, 1, none⟩ v) rv g jb s e #[a0, v, a2, a3, a4, a5, a6] := h.set 1 v
theorem Tp.set_2 {w W : World} {rv g jb : Nat} {s : ByteArray} {e : Int} {a0 a1 a2 a3 a4 a5 a6 : Value} (h : Tp w W rv g jb s e #[a0, a1, a2, a3, a4, a5, a6]) (v : Value) : Tp w (W.setCell ⟨jb, 2, none⟩ v) rv g jb s e #[a0, a1, v, a3, a4, a5, a6] := h.set 2 v
theorem Tp.set_3 {w W : World} {rv g jb : Nat} {s : ByteArray} {e : Int} {a0 a1 a2 a3 a4 a5 a6 : Value} (h : Tp w W rv g jb s e #[a0, a1, a2, a3, a4, a5, a6]) (v : Value) : Tp w (W.setCell ⟨jb, 3, none⟩ v) rv g jb s e #[a0, a1, a2, v, a4, a5, a6] := h.set 3 v
theorem Tp.set_4 {w W : World} {rv g jb : Nat} {s : ByteArray} {e : Int} {a0 a1 a2 a3 a4 a5 a6 : Value} (h : Tp w W rv g jb s e #[a0, a1, a2, a3, a4, a5, a6]) (v : Value) : Tp w (W.setCell ⟨jb, 4, none⟩ v) rv g jb s e #[a0, a1, a2, a3, v, a5, a6] := h.set 4 v
theorem Tp.set_5 {w W : World} {rv g jb : Nat} {s : ByteArray} {e : Int} {a0 a1 a2 a3 a4 a5 a6 : Value} (h : Tp w W rv g jb s e #[a0, a1, a2, a3, a4, a5, a6]) (v : Value) : Tp w (W.setCell ⟨jb, 5, none⟩ v) rv g jb s e #[a0, a1, a2, a3, a4, v, a6] := h.set 5 v
theorem Tp.set_6 {w W : World} {rv g jb : Nat} {s : ByteArray} {e : Int} {a0 a1 a2 a3 a4 a5 a6 : Value} (h : Tp w W rv g jb s e #[a0, a1, a2, a3, a4, a5, a6]) (v : Value) : Tp w (W.setCell ⟨jb, 6, none⟩ v) rv g jb s e #[a0, a1, a2, a3, a4, a5, v] := h.set 6 v
theorem Tp.set7 {w W : World} {rv g jb : Nat} {s : ByteArray} {e : Int} {a0 a1 a2 a3 a4 a5 a6 : Value} (h : Tp w W rv g jb s e #[a0, a1, a2, a3, a4, a5, a6]) (v0 v1 v2 v3 v4 v5 v6 : Value) :
    Tp w (((((((W.setCell ⟨jb, 0, none⟩ v0).setCell ⟨jb, 1, none⟩ v1).setCell ⟨jb, 2, none⟩ v2).setCell ⟨jb, 3, none⟩ v3).setCell ⟨jb, 4, none⟩ v4).setCell ⟨jb, 5, none⟩ v5).setCell ⟨jb, 6, none⟩ v6) rv g jb s e #[v0, v1, v2, v3, v4, v5, v6] := by
  replace h := h.set_0 v0
  replace h := h.set_1 v1
  replace h := h.set_2 v2
  replace h := h.set_3 v3
  replace h := h.set_4 v4
  replace h := h.set_5 v5
  replace h := h.set_6 v6
  exact h
theorem Tp.begin {w W : World} {rv g : Nat} {s : ByteArray} {e : Int} (cs : Array Value) (hi : IsS120 w W g s e) (hr : W.heap[rv]? = some (.cells #[.int .i64 0, .string ⟨#[]⟩, .int .i64 0, .int .i64 0, .int .i64 0, .slice none 0 0, .int .i64 0] 63 (0, 0))) (hb : Below w.heap.size w W) (h1 : rv ≠ g) (h2 : w.heap.size ≤ rv) :
    Tp w (W.alloc (.cells cs 63)) rv g W.heap.size s e cs :=
  ⟨hi.alloc _, blk_alloc hr _, heap_alloc_new W _, below_alloc hb _, h1, fun e => Nat.lt_irrefl _ (e ▸ hi.lt), fun e => Nat.lt_irrefl _ (e ▸ tk_lt hr), hb.size, h2⟩
theorem Tp.below {w W W' : World} {rv g jb : Nat} {s : ByteArray} {e : Int} {cs : Array Value} (h : Tp w W rv g jb s e cs) (hb : Below W.heap.size W W') : Tp w W' rv g jb s e cs :=
  ⟨h.rd.below hb, (hb.block _ (tk_lt h.res)).trans h.res, (hb.block _ (tk_lt h.job)).trans h.job, h.bel.trans (hb.mono h.bel.size), h.n1, h.n2, h.n3, h.b1, h.b2⟩
theorem Tp.grown {w W W' : World} {rv g jb : Nat} {s : ByteArray} {e : Int} {cs : Array Value} (h : Tp w W rv g jb s e cs) {v : Value} {n : Nat} {xs : List Value} (ho : W.ownsRow w.heap.size 3 1 v n xs) (hg : W.grownBy W' v.ownBlock) : Tp w W' rv g jb s e cs := by
  have far : ∀ {b : Nat} {cs : Array Value} {t : TypeId}, W.heap[b]? = some (.cells cs t (0, 0)) → t ≠ 3 → some b ≠ v.ownBlock := fun hb ht e => by
    obtain ⟨cells, hc⟩ := own_typed ho _ e.symm
    rw [hc] at hb
    injection hb with hb
    injection hb with _ hb _
    exact ht hb.symm
  have hrd : W.heap[g]? = some (.cells #[.string s, .int .i64 e] 120 (0, 0)) := h.rd.1
  exact ⟨⟨(hg.block _ (tk_lt hrd) (far hrd (by decide))).trans hrd, h.rd.2⟩, (hg.block _ (tk_lt h.res) (far h.res (by decide))).trans h.res, (hg.block _ (tk_lt h.job) (far h.job (by decide))).trans h.job,
    h.bel.grown hg h.bel.size (fun k e => own_base ho k e), h.n1, h.n2, h.n3, h.b1, h.b2⟩
theorem own_setp {w W : World} {rv g jb : Nat} {s : ByteArray} {e : Int} {cs : Array Value} (h : Tp w W rv g jb s e cs) {v : Value} {n : Nat} {xs : List Value} (ho : W.ownsRow w.heap.size 3 1 v n xs) (j : Nat) (x : Value) : (W.setCell ⟨jb, j, none⟩ x).ownsRow w.heap.size 3 1 v n xs := by
  refine own_move ho fun k hk => Below.heap_setCell W ⟨jb, j, none⟩ x k ?_
  rintro rfl
  obtain ⟨cells, hc⟩ := own_typed ho _ hk
  have := h.job
  rw [hc] at this
  injection this with hb
  injection hb with _ hb _
  exact absurd hb (by decide)
theorem own_keepp {w W W' : World} {g : Nat} {s : ByteArray} {e : Int} {v : Value} {n : Nat} {xs : List Value} (hr : IsS120 w W g s e) (ho : W.ownsRow w.heap.size 3 1 v n xs) (hk : KeepBut W W' g none) : W'.ownsRow w.heap.size 3 1 v n xs := by
  refine own_move ho fun k e => hk.2 k (own_lt ho k e) ?_ (by simp)
  rintro rfl
  obtain ⟨cells, hc⟩ := own_typed ho _ e
  have := hr.1
  rw [hc] at this
  injection this with hb
  injection hb with _ hb _
  exact absurd hb (by decide)
theorem Tp.setr {w W : World} {rv g jb : Nat} {s : ByteArray} {e : Int} {cs : Array Value} (h : Tp w W rv g jb s e cs) (x : ByteArray) : Tp w (W.setCell ⟨g, 0, none⟩ (.string x)) rv g jb x e cs :=
  ⟨h.rd.set_0 x, (Below.heap_setCell W ⟨g, 0, none⟩ (.string x) rv h.n1).trans h.res, (Below.heap_setCell W ⟨g, 0, none⟩ (.string x) jb h.n2).trans h.job, h.bel.setCell (p := ⟨g, 0, none⟩) h.rd.ge _, h.n1, h.n2, h.n3, h.b1, h.b2⟩
set_option maxHeartbeats 1000000 in
set_option maxRecDepth 100000 in
theorem thresherref13_Take.calls (k : Nat) (a0 : ByteArray) (r1 : Int) (r2 : ByteArray) (r3 : Int) (r4 : Int) (r5 : Int) (r6 : List Int) (r7 : Int) (r8 : Int) (w : World) (h : thresherref13_Take.f k a0 = some (r1, r2, r3, r4, r5, r6, r7, r8)) :
  Calls Tryz.prog 31 #[.string a0] w fun e w' => ∃ v5_ : Value, e = .returned (.tuple #[.agg #[.int .i64 r1, .string r2, .int .i64 r3, .int .i64 r4, .int .i64 r5, v5_, .int .i64 r7], .int .i64 r8]) ∧ Kd.R (Kd.int .i64) 3 w' w.heap.size (fun _ => True) v5_ r6 ∧ Below w.heap.size w w' := by
  have hu63 := Tryz.underlying63
  have hu120 := Tryz.underlying120
  unfold thresherref13_Take.f at h
  replace h := Option.bind_eq_some_iff.mp h
  obtain ⟨⟨q1, s1, e1⟩, A1, h⟩ := h
  replace h := Option.bind_eq_some_iff.mp h
  obtain ⟨⟨q2, s2, e2⟩, A2, h⟩ := h
  simp only at A2 h
  have H1 := Aside0.mk A1
  have H2 := Aside0.mk A2
  have HL := Aside0.mk h
  clear A1 A2 h
  go_enter Tryz.func31, Tryz.ntmps31
  go_upto_region 2 with (fail)
  have HB0 : Aside0 (Below w.heap.size w ((w.alloc (.cells #[.int .i64 0, .string ⟨#[]⟩, .int .i64 0, .int .i64 0, .int .i64 0, .slice none 0 0, .int .i64 0] 63)).alloc (.cells #[.string a0, .int .i64 0] 120))) := ⟨below_alloc (below_alloc (Below.refl _ _) _) _⟩
  have HI0 : Aside0 (IsS120 w ((w.alloc (.cells #[.int .i64 0, .string ⟨#[]⟩, .int .i64 0, .int .i64 0, .int .i64 0, .slice none 0 0, .int .i64 0] 63)).alloc (.cells #[.string a0, .int .i64 0] 120)) (w.heap.size + 1) a0 0) := ⟨by
    have := IsS120.new w (w.alloc (.cells #[.int .i64 0, .string ⟨#[]⟩, .int .i64 0, .int .i64 0, .int .i64 0, .slice none 0 0, .int .i64 0] 63)) a0 0 (below_alloc (Below.refl _ _) _)
    simpa using this⟩
  have HR0 : Aside0 (((w.alloc (.cells #[.int .i64 0, .string ⟨#[]⟩, .int .i64 0, .int .i64 0, .int .i64 0, .slice none 0 0, .int .i64 0] 63)).alloc (.cells #[.string a0, .int .i64 0] 120)).heap[w.heap.size]? = some (.cells #[.int .i64 0, .string ⟨#[]⟩, .int .i64 0, .int .i64 0, .int .i64 0, .slice none 0 0, .int .i64 0] 63 (0, 0))) := ⟨blk_alloc (heap_alloc_new w _) _⟩
  have HN0 : Aside0 (w.heap.size ≠ w.heap.size + 1) := ⟨by omega⟩
  have HN1 : Aside0 (w.heap.size ≤ w.heap.size) := ⟨Nat.le_refl _⟩
  generalize (w.alloc (.cells #[.int .i64 0, .string ⟨#[]⟩, .int .i64 0, .int .i64 0, .int .i64 0, .slice none 0 0, .int .i64 0] 63)).alloc (.cells #[.string a0, .int .i64 0] 120) = W1 at HB0 HI0 HR0 ⊢
  obtain ⟨g, hg⟩ : ∃ g, g = w.heap.size + 1 := ⟨_, rfl⟩
  rw [← hg] at HI0 HN0 ⊢
  clear hg
  obtain ⟨rv, hrv⟩ : ∃ rv, rv = w.heap.size := ⟨_, rfl⟩
  replace HN1 : Aside0 (w.heap.size ≤ rv) := ⟨hrv ▸ HN1.out⟩
  replace HR0 : Aside0 (W1.heap[rv]? = _) := ⟨hrv ▸ HR0.out⟩
  replace HN0 : Aside0 (rv ≠ g) := ⟨hrv ▸ HN0.out⟩
  rw [← hrv]
  clear hrv
  go_upto_region 3 with (fail)
  have HT := Aside0.mk (Tp.begin #[.int .i64 0, .string ⟨#[]⟩, .int .i64 0, .int .i64 0, .int .i64 0, .slice none 0 0, .int .i64 0] HI0.out HR0.out HB0.out HN0.out HN1.out)
  generalize hjb : W1.heap.size = jb at HT ⊢
  clear hjb
  generalize W1.alloc (.cells #[.int .i64 0, .string ⟨#[]⟩, .int .i64 0, .int .i64 0, .int .i64 0, .slice none 0 0, .int .i64 0] 63) = W3 at HT ⊢
  clear HB0 HI0 HR0 HN0 HN1
  go_upto_region 4 with (first | (go_at_call 66; refine (thresherref13_reader_num.calls k g a0 0 q1 s1 e1 w _ HT.out.rd HT.out.bel H1.out).mono ?_; clear H1; rintro e w2 ⟨rfl, hi, hb, hk⟩; have HT2 := Aside0.mk (HT.out.call hi hb hk); clear hi hb hk; obtain ⟨c0, c1, c2, c3, c4, c5, c6, cf0, cf1, cf2, cf3, cf4, cf5, cf6⟩ := blkall_7  HT2.out.job))
  have HT3 := Aside0.mk (HT2.out.set_0 (.int .i64 q1))
  clear c0 c1 c2 c3 c4 c5 c6 cf0 cf1 cf2 cf3 cf4 cf5 cf6
  generalize (w2.setCell ⟨jb, 0, none⟩ (.int .i64 q1)) = W4 at HT3 ⊢
  clear HT HT2
  go_upto_region 5 with (first | (go_at_call 66; refine (thresherref13_reader_num.calls k g s1 e1 q2 s2 e2 w _ HT3.out.rd HT3.out.bel H2.out).mono ?_; clear H2; rintro e w5 ⟨rfl, hi, hb, hk⟩; have HT := Aside0.mk (HT3.out.call hi hb hk); clear hi hb hk HT3))
  go_cut [28] (fun v28 wc => ∃ (kq : Nat) (b : Bool), v28 = .bool b ∧ Aside0 (thresherref13_Take.j0 kq q2 b s2 e2 q1 ⟨#[]⟩ 0 0 0 0 = some (r1, r2, r3, r4, r5, r6, r7, r8)) ∧ Aside0 (Tp w wc rv g jb s2 e2 #[.int .i64 q1, .string ⟨#[]⟩, .int .i64 0, .int .i64 0, .int .i64 0, .slice none 0 0, .int .i64 0]))
  case first =>
    have h := HL.out
    clear HL
    have g1 := cellS120_1 HT.out.rd.1
    by_cases he : e2 = 0
    · subst he
      rw [if_pos rfl] at h
      by_cases h1 : q2 < 0
      · rw [if_pos h1] at h
        have HH := Aside0.mk h
        have h1b := decide_eq_true h1
        clear h1 h
        go_wp2
        go_meet
        case rel => exact ⟨k, true, rfl, HH, HT⟩
      · rw [if_neg h1] at h
        have HH := Aside0.mk h
        have h1b := decide_eq_false h1
        clear h1 h
        go_wp2
        go_meet
        case rel => exact ⟨k, _, rfl, HH, HT⟩
    · rw [if_neg he] at h
      have heb : (e2 == 0) = false := by simpa using he
      have HH := Aside0.mk h
      clear he h
      go_wp2
      go_meet
      case rel => exact ⟨k, false, rfl, HH, HT⟩
  case rest =>
    clear HL HT
    obtain ⟨kq, b, rfl, HL, HT⟩ := hcut
    cases kq with
    | zero => exact absurd HL.out (by simp [thresherref13_Take.j0])
    | succ k1 =>
      have h := HL.out
      simp only [thresherref13_Take.j0] at h
      clear HL
      cases b with
      | true =>
        rw [if_pos rfl] at h
        simp only [Option.some.injEq, Prod.mk.injEq] at h
        obtain ⟨rfl, rfl, rfl, rfl, rfl, rfl, rfl, rfl⟩ := h
        obtain ⟨c0, c1, c2, c3, c4, c5, c6, cf0, cf1, cf2, cf3, cf4, cf5, cf6⟩ := blkall_7  HT.out.res
        have HRS := Aside0.mk (Rs.mk HT.out.res HT.out.bel HT.out.b2)
        go_wp2
        obtain ⟨hrs, -⟩ := HRS.out.set7 (.int .i64 0) (.string ⟨#[]⟩) (.int .i64 0) (.int .i64 0) (.int .i64 0) (.slice none 0 0) (.int .i64 0) (World.ownsRow_nil _ w.heap.size 3 1)
        clear c0 c1 c2 c3 c4 c5 c6 cf0 cf1 cf2 cf3 cf4 cf5 cf6
        generalize (((((((wc.setCell ⟨rv, 0, none⟩ (.int .i64 0)).setCell ⟨rv, 1, none⟩ (.string ⟨#[]⟩)).setCell ⟨rv, 2, none⟩ (.int .i64 0)).setCell ⟨rv, 3, none⟩ (.int .i64 0)).setCell ⟨rv, 4, none⟩ (.int .i64 0)).setCell ⟨rv, 5, none⟩ (.slice none 0 0)).setCell ⟨rv, 6, none⟩ (.int .i64 0)) = W7 at hrs ⊢
        (try simp only [Exit.inBlock, Exit.then])
        refine bodyPost_ret (v := .tuple #[.agg #[.int .i64 0, .string ⟨#[]⟩, .int .i64 0, .int .i64 0, .int .i64 0, .slice none 0 0, .int .i64 0], .int .i64 7]) (by exact ret63 (fn := Tryz.f31) (p := 2) (u := 3) rfl rfl hrs.blk rfl) rfl ⟨.slice none 0 0, rfl, Kd.R_nil _ _ _ _ _, hrs.bel⟩
      | false =>
        rw [if_neg (by simp)] at h
        have HL := Aside0.mk h
        clear h
        go_upto_region 7 with (fail)
        go_cut [43] (fun v43 wc => ∃ (kq : Nat) (b : Bool), v43 = .bool b ∧ Aside0 (thresherref13_Take.j1 kq q2 b s2 e2 q1 ⟨#[]⟩ 0 0 0 0 = some (r1, r2, r3, r4, r5, r6, r7, r8)) ∧ Aside0 (Tp w wc rv g jb s2 e2 #[.int .i64 q1, .string ⟨#[]⟩, .int .i64 0, .int .i64 0, .int .i64 0, .slice none 0 0, .int .i64 0]))
        case first =>
          have h := HL.out
          clear HL
          have g1 := cellS120_1 HT.out.rd.1
          have g0 := cellS120_0 HT.out.rd.1
          by_cases he : e2 = 0
          · rw [if_pos he] at h
            subst he
            have HH := Aside0.mk h
            clear h
            go_wp2
            go_meet
            case rel => exact ⟨k1, _, rfl, HH, HT⟩
          · rw [if_neg he] at h
            have heb : (e2 == 0) = false := by simpa using he
            have HH := Aside0.mk h
            clear he h
            go_wp2
            go_meet
            case rel => exact ⟨k1, false, rfl, HH, HT⟩
        case rest =>
          clear HL HT
          obtain ⟨kq, b, rfl, HL, HT⟩ := hcut
          cases kq with
          | zero => exact absurd HL.out (by simp [thresherref13_Take.j1])
          | succ k2 =>
            have h := HL.out
            simp only [thresherref13_Take.j1] at h
            clear HL
            cases b with
            | true =>
              rw [if_pos rfl] at h
              simp only [Option.some.injEq, Prod.mk.injEq] at h
              obtain ⟨rfl, rfl, rfl, rfl, rfl, rfl, rfl, rfl⟩ := h
              obtain ⟨c0, c1, c2, c3, c4, c5, c6, cf0, cf1, cf2, cf3, cf4, cf5, cf6⟩ := blkall_7  HT.out.res
              have HRS := Aside0.mk (Rs.mk HT.out.res HT.out.bel HT.out.b2)
              go_wp2
              obtain ⟨hrs, -⟩ := HRS.out.set7 (.int .i64 0) (.string ⟨#[]⟩) (.int .i64 0) (.int .i64 0) (.int .i64 0) (.slice none 0 0) (.int .i64 0) (World.ownsRow_nil _ w.heap.size 3 1)
              clear c0 c1 c2 c3 c4 c5 c6 cf0 cf1 cf2 cf3 cf4 cf5 cf6
              generalize (((((((wc.setCell ⟨rv, 0, none⟩ (.int .i64 0)).setCell ⟨rv, 1, none⟩ (.string ⟨#[]⟩)).setCell ⟨rv, 2, none⟩ (.int .i64 0)).setCell ⟨rv, 3, none⟩ (.int .i64 0)).setCell ⟨rv, 4, none⟩ (.int .i64 0)).setCell ⟨rv, 5, none⟩ (.slice none 0 0)).setCell ⟨rv, 6, none⟩ (.int .i64 0)) = W7 at hrs ⊢
              (try simp only [Exit.inBlock, Exit.then])
              refine bodyPost_ret (v := .tuple #[.agg #[.int .i64 0, .string ⟨#[]⟩, .int .i64 0, .int .i64 0, .int .i64 0, .slice none 0 0, .int .i64 0], .int .i64 6]) (by exact ret63 (fn := Tryz.f31) (p := 2) (u := 3) rfl rfl hrs.blk rfl) rfl ⟨.slice none 0 0, rfl, Kd.R_nil _ _ _ _ _, hrs.bel⟩
            | false =>
              rw [if_neg (by simp)] at h
              have HL := Aside0.mk h
              clear h
              have g1 := cellS120_1 HT.out.rd.1
              go_upto_if 49 with (fail)
              clear g1
              go_cut [49] (fun v49 wc => ∃ (kq : Nat) (s : ByteArray) (p : ByteArray), Aside0 (thresherref13_Take.j2 kq s e2 q1 p 0 0 0 0 = some (r1, r2, r3, r4, r5, r6, r7, r8)) ∧ Aside0 (Tp w wc rv g jb s e2 #[.int .i64 q1, .string p, .int .i64 0, .int .i64 0, .int .i64 0, .slice none 0 0, .int .i64 0]))
              case first =>
                have h := HL.out
                clear HL
                by_cases he : e2 = 0
                · rw [if_pos he] at h
                  subst he
                  by_cases h1 : 0 ≤ q2
                  · rw [if_pos h1] at h
                    by_cases h2 : q2 ≤ (s2.size : Int)
                    · rw [if_pos h2] at h
                      have HH := Aside0.mk h
                      have p1 := eq_true h1
                      have p2 := eq_true h2
                      clear h1 h2 h
                      obtain ⟨g0, g1⟩ := And.intro (cellS120_0 HT.out.rd.1) (cellS120_1 HT.out.rd.1)
                      obtain ⟨c0, c1, c2, c3, c4, c5, c6, cf0, cf1, cf2, cf3, cf4, cf5, cf6⟩ := blkall_7  HT.out.job
                      go_upto_region 11 with (fail)
                      have HT2 := Aside0.mk (HT.out.set_1 (.string (s2.extract 0 q2.toNat)))
                      clear c0 c1 c2 c3 c4 c5 c6 cf0 cf1 cf2 cf3 cf4 cf5 cf6 g0 g1
                      generalize (wc.setCell ⟨jb, 1, none⟩ (.string (s2.extract 0 q2.toNat))) = W6 at HT2 ⊢
                      clear HT
                      obtain ⟨g0, g1⟩ := And.intro (cellS120_0 HT2.out.rd.1) (cellS120_1 HT2.out.rd.1)
                      have gf := blk_frozen HT2.out.rd.1 0
                      go_wp2
                      have HT3 : Aside0 (Tp w (W6.setCell ⟨g, 0, none⟩ (.string (s2.extract q2.toNat s2.size))) rv g jb (s2.extract q2.toNat s2.size) 0 _) := ⟨HT2.out.setr _⟩
                      clear g0 g1 gf
                      generalize (W6.setCell ⟨g, 0, none⟩ (.string (s2.extract q2.toNat s2.size))) = W7 at HT3 ⊢
                      go_meet
                      case rel => exact ⟨k2, _, _, HH, HT3⟩
                    · rw [if_neg h2] at h
                      cases h
                  · rw [if_neg h1] at h
                    cases h
                · rw [if_neg he] at h
                  have heb : (e2 == 0) = false := by simpa using he
                  have HH := Aside0.mk h
                  clear he h
                  go_wp2
                  go_meet
                  case rel => exact ⟨k2, s2, ⟨#[]⟩, HH, HT⟩
              case rest =>
                clear HL HT
                obtain ⟨kq, s, p, HL, HT⟩ := hcut
                cases kq with
                | zero => exact absurd HL.out (by simp [thresherref13_Take.j2])
                | succ k3 =>
                  have h := HL.out
                  simp only [thresherref13_Take.j2] at h
                  clear HL
                  replace h := Option.bind_eq_some_iff.mp h
                  obtain ⟨⟨q4, s4, e4⟩, A4, h⟩ := h
                  replace h := Option.bind_eq_some_iff.mp h
                  obtain ⟨⟨q5, s5, e5⟩, A5, h⟩ := h
                  replace h := Option.bind_eq_some_iff.mp h
                  obtain ⟨⟨q6, s6, e6⟩, A6, h⟩ := h
                  replace h := Option.bind_eq_some_iff.mp h
                  obtain ⟨⟨q7, s7, e7⟩, A7, h⟩ := h
                  simp only at A4 A5 A6 A7 h
                  have H4 := Aside0.mk A4
                  have H5 := Aside0.mk A5
                  have H6 := Aside0.mk A6
                  have H7 := Aside0.mk A7
                  have HL := Aside0.mk h
                  clear A4 A5 A6 A7 h
                  go_upto_region 13 with (first | (go_at_call 66; refine (thresherref13_reader_num.calls k3 g s e2 q4 s4 e4 w _ HT.out.rd HT.out.bel H4.out).mono ?_; clear H4; rintro e w5 ⟨rfl, hi, hb, hk⟩; have HT2 := Aside0.mk (HT.out.call hi hb hk); clear hi hb hk) | (go_at_call 66; refine (thresherref13_reader_num.calls k3 g s4 e4 q5 s5 e5 w _ HT2.out.rd HT2.out.bel H5.out).mono ?_; clear H5; rintro e w6 ⟨rfl, hi, hb, hk⟩; have HT3 := Aside0.mk (HT2.out.call hi hb hk); clear hi hb hk) | (go_at_call 66; refine (thresherref13_reader_num.calls k3 g s5 e5 q6 s6 e6 w _ HT3.out.rd HT3.out.bel H6.out).mono ?_; clear H6; rintro e w7 ⟨rfl, hi, hb, hk⟩; have HT4 := Aside0.mk (HT3.out.call hi hb hk); clear hi hb hk; obtain ⟨c0, c1, c2, c3, c4, c5, c6, cf0, cf1, cf2, cf3, cf4, cf5, cf6⟩ := blkall_7  HT4.out.job))
                  have HT5 := Aside0.mk (((HT4.out.set_2 (.int .i64 q4)).set_3 (.int .i64 q5)).set_4 (.int .i64 q6))
                  clear c0 c1 c2 c3 c4 c5 c6 cf0 cf1 cf2 cf3 cf4 cf5 cf6
                  generalize (((w7.setCell ⟨jb, 2, none⟩ (.int .i64 q4)).setCell ⟨jb, 3, none⟩ (.int .i64 q5)).setCell ⟨jb, 4, none⟩ (.int .i64 q6)) = W5 at HT5 ⊢
                  clear HT HT2 HT3 HT4
                  go_upto_region 14 with (first | (go_at_call 66; refine (thresherref13_reader_num.calls k3 g s6 e6 q7 s7 e7 w _ HT5.out.rd HT5.out.bel H7.out).mono ?_; clear H7; rintro e w8 ⟨rfl, hi, hb, hk⟩; have HT := Aside0.mk (HT5.out.call hi hb hk); clear hi hb hk HT5))
                  go_cut [89] (fun v89 wc => ∃ (kq : Nat) (b : Bool), v89 = .bool b ∧ Aside0 (thresherref13_Take.j3 kq q7 b s7 e7 q1 p q4 q5 q6 0 = some (r1, r2, r3, r4, r5, r6, r7, r8)) ∧ Aside0 (Tp w wc rv g jb s7 e7 #[.int .i64 q1, .string p, .int .i64 q4, .int .i64 q5, .int .i64 q6, .slice none 0 0, .int .i64 0]))
                  case first =>
                    have h := HL.out
                    clear HL
                    have g1 := cellS120_1 HT.out.rd.1
                    by_cases he : e7 = 0
                    · rw [if_pos he] at h
                      subst he
                      by_cases h1 : q7 < 0
                      · rw [if_pos h1] at h
                        have HH := Aside0.mk h
                        have h1b := decide_eq_true h1
                        clear h1 h
                        go_wp2
                        go_meet
                        case rel => exact ⟨k3, true, rfl, HH, HT⟩
                      · rw [if_neg h1] at h
                        have HH := Aside0.mk h
                        have h1b := decide_eq_false h1
                        clear h1 h
                        go_wp2
                        go_meet
                        case rel => exact ⟨k3, _, rfl, HH, HT⟩
                    · rw [if_neg he] at h
                      have heb : (e7 == 0) = false := by simpa using he
                      have HH := Aside0.mk h
                      clear he h
                      go_wp2
                      go_meet
                      case rel => exact ⟨k3, false, rfl, HH, HT⟩
                  case rest =>
                    clear HL HT
                    obtain ⟨kq, b, rfl, HL, HT⟩ := hcut
                    cases kq with
                    | zero => exact absurd HL.out (by simp [thresherref13_Take.j3])
                    | succ k4 =>
                      have h := HL.out
                      simp only [thresherref13_Take.j3] at h
                      clear HL
                      cases b with
                      | true =>
                        rw [if_pos rfl] at h
                        simp only [Option.some.injEq, Prod.mk.injEq] at h
                        obtain ⟨rfl, rfl, rfl, rfl, rfl, rfl, rfl, rfl⟩ := h
                        obtain ⟨c0, c1, c2, c3, c4, c5, c6, cf0, cf1, cf2, cf3, cf4, cf5, cf6⟩ := blkall_7  HT.out.res
                        have HRS := Aside0.mk (Rs.mk HT.out.res HT.out.bel HT.out.b2)
                        go_wp2
                        obtain ⟨hrs, -⟩ := HRS.out.set7 (.int .i64 0) (.string ⟨#[]⟩) (.int .i64 0) (.int .i64 0) (.int .i64 0) (.slice none 0 0) (.int .i64 0) (World.ownsRow_nil _ w.heap.size 3 1)
                        clear c0 c1 c2 c3 c4 c5 c6 cf0 cf1 cf2 cf3 cf4 cf5 cf6
                        generalize (((((((wc.setCell ⟨rv, 0, none⟩ (.int .i64 0)).setCell ⟨rv, 1, none⟩ (.string ⟨#[]⟩)).setCell ⟨rv, 2, none⟩ (.int .i64 0)).setCell ⟨rv, 3, none⟩ (.int .i64 0)).setCell ⟨rv, 4, none⟩ (.int .i64 0)).setCell ⟨rv, 5, none⟩ (.slice none 0 0)).setCell ⟨rv, 6, none⟩ (.int .i64 0)) = W7 at hrs ⊢
                        (try simp only [Exit.inBlock, Exit.then])
                        refine bodyPost_ret (v := .tuple #[.agg #[.int .i64 0, .string ⟨#[]⟩, .int .i64 0, .int .i64 0, .int .i64 0, .slice none 0 0, .int .i64 0], .int .i64 7]) (by exact ret63 (fn := Tryz.f31) (p := 2) (u := 3) rfl rfl hrs.blk rfl) rfl ⟨.slice none 0 0, rfl, Kd.R_nil _ _ _ _ _, hrs.bel⟩
                      | false =>
                        rw [if_neg (by simp)] at h
                        have HL := Aside0.mk h
                        clear h
                        go_upto_block 0 with (fail)
                        go_cut [7] (fun v7 wc => ∃ (kq : Nat) (s : ByteArray) (e : Int) (xs : List Int) (v : Value), Aside0 (thresherref13_Take.j5 kq s e q1 p q4 q5 q6 xs 0 = some (r1, r2, r3, r4, r5, r6, r7, r8)) ∧ Aside0 (Tp w wc rv g jb s e #[.int .i64 q1, .string p, .int .i64 q4, .int .i64 q5, .int .i64 q6, v, .int .i64 0]) ∧ Aside0 (wc.ownsRow w.heap.size 3 1 v xs.length (xs.map (Value.int .i64))))
                        case first =>
                          go_wp2
                          go_loopg [7] k4 (fun kq v7 w' => ∃ (i : Int) (s : ByteArray) (e : Int) (xs : List Int) (v : Value), v7 = .int .i64 i ∧ Aside0 (thresherref13_Take.l0 kq q7 i s e q1 p q4 q5 q6 xs 0 = some (r1, r2, r3, r4, r5, r6, r7, r8)) ∧ Aside0 (Tp w w' rv g jb s e #[.int .i64 q1, .string p, .int .i64 q4, .int .i64 q5, .int .i64 q6, v, .int .i64 0]) ∧ Aside0 (w'.ownsRow w.heap.size 3 1 v xs.length (xs.map (Value.int .i64))))
                          case atStart => exact ⟨0, s7, e7, [], .slice none 0 0, rfl, HL, HT, ⟨World.ownsRow_nil _ _ _ _⟩⟩
                          case round =>
                            clear HL HT
                            obtain ⟨i, s, e, xs, v, rfl, HL, HT, HO⟩ := hrel
                            obtain ⟨A5, cc5, rfl⟩ := tk_slice HO.out
                            cases gk with
                            | zero => exact absurd HL.out (by simp [thresherref13_Take.l0])
                            | succ k5 =>
                              have h := HL.out
                              simp only [thresherref13_Take.l0] at h
                              clear HL
                              have g1 := cellS120_1 HT.out.rd.1
                              by_cases hi : i < q7
                              · rw [if_pos hi] at h
                                have hib := decide_eq_true hi
                                clear hi
                                by_cases he : e = 0
                                · rw [if_pos he] at h
                                  subst he
                                  replace h := Option.bind_eq_some_iff.mp h
                                  obtain ⟨⟨q, s', e'⟩, A, h⟩ := h
                                  simp only at h
                                  by_cases hx : xs.length < 17592186044416
                                  · rw [if_pos hx] at h
                                    have HA := Aside0.mk A
                                    have HL := Aside0.mk h
                                    have HX := Aside0.mk hx
                                    clear A h hx
                                    obtain ⟨c0, c1, c2, c3, c4, c5, c6, cf0, cf1, cf2, cf3, cf4, cf5, cf6⟩ := blkall_7  HT.out.job
                                    go_upto_region 19 with (fail)
                                    have HTd := Aside0.mk (HT.out.below (W' := wr.drew) (below_drew (Below.refl _ _)))
                                    have HOd := Aside0.mk (own_below (W' := wr.drew) HO.out (below_drew (Below.refl _ _)))
                                    go_region_law (first
                                      | (go_simp; go_at_call 66; refine (thresherref13_reader_num.calls k5 g s 0 q s' e' w _ HTd.out.rd HTd.out.bel HA.out).mono ?_; rintro e w2 ⟨rfl, hi2, hb2, hk2⟩; have HT2 := Aside0.mk (HTd.out.call hi2 hb2 hk2); have HO2 := Aside0.mk (own_keepp HTd.out.rd HOd.out hk2); clear hi2 hb2 hk2; obtain ⟨d0, d1, d2, d3, d4, d5, d6, df0, df1, df2, df3, df4, df5, df6⟩ := blkall_7  HT2.out.job; have u5 := (blkall_7 (HT2.out.below (W' := w2.alloc (.cells #[.int .i64 q] 3)) (below_alloc (Below.refl _ _) _)).job).2.2.2.2.2.1)
                                      | (refine step_int q rfl _ _ rfl (.slice A5 xs.length cc5) w.heap.size xs.length _ rfl rfl HO2.out HX.out HT2.out.bel.size ?_; intro g5 cap5 w5 hown hg; have HT3 := Aside0.mk ((HT2.out.below (below_alloc (Below.refl _ _) _)).grown (own_below HO2.out (below_alloc (Below.refl _ _) _)) hg); have HO3 := Aside0.mk hown; clear hown hg; obtain ⟨m0, m1, m2, m3, m4, m5, m6, mf0, mf1, mf2, mf3, mf4, mf5, mf6⟩ := blkall_7  HT3.out.job))
                                    all_goals
                                      have HT4 := Aside0.mk (HT3.out.set_5 (.slice (some ⟨g5, 0, none⟩) (xs.length + 1) cap5))
                                      have HO4 := Aside0.mk (own_setp HT3.out HO3.out 5 (.slice (some ⟨g5, 0, none⟩) (xs.length + 1) cap5))
                                      clear c0 c1 c2 c3 c4 c5 c6 cf0 cf1 cf2 cf3 cf4 cf5 cf6 d0 d1 d2 d3 d4 d5 d6 df0 df1 df2 df3 df4 df5 df6 u5 m0 m1 m2 m3 m4 m5 m6 mf0 mf1 mf2 mf3 mf4 mf5 mf6 g1
                                      generalize w5.setCell ⟨jb, 5, none⟩ (.slice (some ⟨g5, 0, none⟩) (xs.length + 1) cap5) = W6 at HT4 HO4 ⊢
                                      go_wp2
                                      go_roundg k5
                                      case measure => omega
                                      case rel => exact ⟨wrap64 (i + 1), s', e', xs ++ [q], _, by first | rfl | (simp [i64_w]; done), HL, HT4, ⟨by have := HO4.out; rw [List.length_append, List.map_append]; exact this⟩⟩
                                  · rw [if_neg hx] at h
                                    cases h
                                · rw [if_neg he] at h
                                  have heb : (e == 0) = false := by simpa using he
                                  clear he
                                  have HJ := Aside0.mk h
                                  clear h
                                  go_wp2
                                  go_meet
                                  case rel => exact ⟨k5, s, e, xs, _, HJ, HT, HO⟩
                              · rw [if_neg hi] at h
                                have hib := decide_eq_false hi
                                clear hi
                                have HJ := Aside0.mk h
                                clear h
                                go_wp2
                                go_meet
                                case rel => exact ⟨k5, s, e, xs, _, HJ, HT, HO⟩
                        case rest =>
                          clear HL HT
                          obtain ⟨kq, s, e, xs, v, HL, HT, HO⟩ := hcut
                          obtain ⟨A5, cc5, rfl⟩ := tk_slice HO.out
                          cases kq with
                          | zero => exact absurd HL.out (by simp [thresherref13_Take.j5])
                          | succ k5 =>
                            have hl := HL.out
                            simp only [thresherref13_Take.j5] at hl
                            clear HL
                            replace hl := Option.bind_eq_some_iff.mp hl
                            obtain ⟨⟨q, s', e'⟩, A, hl⟩ := hl
                            simp only at hl
                            have HA := Aside0.mk A
                            clear A
                            go_upto_region 21 with (first | (go_at_call 66; refine (thresherref13_reader_num.calls k5 g s e q s' e' w _ HT.out.rd HT.out.bel HA.out).mono ?_; rintro e w2 ⟨rfl, hi2, hb2, hk2⟩; have HT2 := Aside0.mk (HT.out.call hi2 hb2 hk2); have HO2 := Aside0.mk (own_keepp HT.out.rd HO.out hk2); clear hi2 hb2 hk2; obtain ⟨d0, d1, d2, d3, d4, d5, d6, df0, df1, df2, df3, df4, df5, df6⟩ := blkall_7  HT2.out.job))
                            have HT4 := Aside0.mk (HT2.out.set_6 (.int .i64 q))
                            have HO4 := Aside0.mk (own_setp HT2.out HO2.out 6 (.int .i64 q))
                            clear d0 d1 d2 d3 d4 d5 d6 df0 df1 df2 df3 df4 df5 df6
                            generalize w2.setCell ⟨jb, 6, none⟩ (.int .i64 q) = W6 at HT4 HO4 ⊢
                            clear HT HO HT2 HO2 HA
                            have HT := HT4
                            have HO := HO4
                            clear HT4 HO4
                            obtain ⟨g0, g1⟩ := And.intro (cellS120_0 HT.out.rd.1) (cellS120_1 HT.out.rd.1)
                            have HRS := Aside0.mk (Rs.mk HT.out.res HT.out.bel HT.out.b2)
                            obtain ⟨c0, c1, c2, c3, c4, c5, c6, cf0, cf1, cf2, cf3, cf4, cf5, cf6⟩ := blkall_7  HT.out.res
                            by_cases he : e' = 0
                            · subst he
                              first | rw [if_pos rfl] at hl | rw [if_pos trivial] at hl
                              have hrd := Kd.R_of_own (enc := Value.int .i64) (h1 := fun _ => rfl) (ok := fun _ => True) HO.out (fun _ _ => trivial)
                              have hrd2 := Kd.R_reads' hrd
                              by_cases hs : (s'.size : Int) > 0
                              · rw [if_pos hs] at hl
                                have h := hl
                                have hsb : decide ((0 : Int) < (s'.size : Int)) = true := decide_eq_true hs
                                have hsb2 : decide (0 < s'.size) = true := decide_eq_true (by omega)
                                clear hl hs hrd hrd2
                                simp only [Option.some.injEq, Prod.mk.injEq] at h
                                obtain ⟨rfl, rfl, rfl, rfl, rfl, rfl, rfl, rfl⟩ := h
                                go_wp2
                                obtain ⟨hrs, -⟩ := HRS.out.set7 (.int .i64 0) (.string ⟨#[]⟩) (.int .i64 0) (.int .i64 0) (.int .i64 0) (.slice none 0 0) (.int .i64 0) (World.ownsRow_nil _ w.heap.size 3 1)
                                clear c0 c1 c2 c3 c4 c5 c6 cf0 cf1 cf2 cf3 cf4 cf5 cf6
                                generalize (((((((W6.setCell ⟨rv, 0, none⟩ (.int .i64 0)).setCell ⟨rv, 1, none⟩ (.string ⟨#[]⟩)).setCell ⟨rv, 2, none⟩ (.int .i64 0)).setCell ⟨rv, 3, none⟩ (.int .i64 0)).setCell ⟨rv, 4, none⟩ (.int .i64 0)).setCell ⟨rv, 5, none⟩ (.slice none 0 0)).setCell ⟨rv, 6, none⟩ (.int .i64 0)) = W7 at hrs ⊢
                                (try simp only [Exit.inBlock, Exit.then])
                                refine bodyPost_ret (v := .tuple #[.agg #[.int .i64 0, .string ⟨#[]⟩, .int .i64 0, .int .i64 0, .int .i64 0, .slice none 0 0, .int .i64 0], .int .i64 7]) (by exact ret63 (fn := Tryz.f31) (p := 2) (u := 3) rfl rfl hrs.blk rfl) rfl ⟨.slice none 0 0, rfl, Kd.R_nil _ _ _ _ _, hrs.bel⟩
                              · rw [if_neg hs] at hl
                                have hsb : decide ((0 : Int) < (s'.size : Int)) = false := decide_eq_false hs
                                have hsb2 : decide (0 < s'.size) = false := decide_eq_false (by omega)
                                replace hl := Option.bind_eq_some_iff.mp hl
                                obtain ⟨tc, A, h⟩ := hl
                                have HA := Aside0.mk A
                                have HC := Aside0.mk hrd2.2.2
                                have HC2 := Aside0.mk hrd2.2.1
                                clear A hrd hrd2 hs
                                obtain ⟨e0, e1', e2', e3', e4', e5', e6', -⟩ := blkall_7 HT.out.job
                                cases tc with
                                | true =>
                                  rw [if_pos rfl] at h
                                  simp only [Option.some.injEq, Prod.mk.injEq] at h
                                  obtain ⟨rfl, rfl, rfl, rfl, rfl, rfl, rfl, rfl⟩ := h
                                  go_upto_region 25 with (first | (go_at_call 25; refine (thresherref13_Job.calls k5 q1 p q4 q5 q6 A5 cc5 xs q true _ HC.out HC2.out HA.out).mono ?_; rintro e w3 ⟨rfl, hb⟩; have HT3 := Aside0.mk (HT.out.below hb); have HO3 := Aside0.mk (own_below HO.out hb); clear hb; clear c0 c1 c2 c3 c4 c5 c6 cf0 cf1 cf2 cf3 cf4 cf5 cf6 g0 g1 e0 e1' e2' e3' e4' e5' e6'))
                                  obtain ⟨c0, c1, c2, c3, c4, c5, c6, cf0, cf1, cf2, cf3, cf4, cf5, cf6⟩ := blkall_7  HT3.out.res
                                  obtain ⟨e0, e1', e2', e3', e4', e5', e6', -⟩ := blkall_7 HT3.out.job
                                  go_wp2
                                  obtain ⟨hrs, hos⟩ := (Rs.mk HT3.out.res HT3.out.bel HT3.out.b2).set7 (.int .i64 q1) (.string p) (.int .i64 q4) (.int .i64 q5) (.int .i64 q6) (.slice A5 xs.length cc5) (.int .i64 q) HO3.out
                                  clear c0 c1 c2 c3 c4 c5 c6 cf0 cf1 cf2 cf3 cf4 cf5 cf6 e0 e1' e2' e3' e4' e5' e6'
                                  generalize (((((((w3.setCell ⟨rv, 0, none⟩ (.int .i64 q1)).setCell ⟨rv, 1, none⟩ (.string p)).setCell ⟨rv, 2, none⟩ (.int .i64 q4)).setCell ⟨rv, 3, none⟩ (.int .i64 q5)).setCell ⟨rv, 4, none⟩ (.int .i64 q6)).setCell ⟨rv, 5, none⟩ (.slice A5 xs.length cc5)).setCell ⟨rv, 6, none⟩ (.int .i64 q)) = W7 at hrs hos ⊢
                                  (try simp only [Exit.inBlock, Exit.then])
                                  refine bodyPost_ret (v := .tuple #[.agg #[.int .i64 q1, .string p, .int .i64 q4, .int .i64 q5, .int .i64 q6, .slice A5 xs.length cc5, .int .i64 q], .int .i64 0]) (by exact ret63 (fn := Tryz.f31) (p := 2) (u := 3) rfl rfl hrs.blk rfl) rfl ⟨.slice A5 xs.length cc5, rfl, Kd.R_of_own hos (fun _ _ => trivial), hrs.bel⟩
                                | false =>
                                  rw [if_neg (by simp)] at h
                                  simp only [Option.some.injEq, Prod.mk.injEq] at h
                                  obtain ⟨rfl, rfl, rfl, rfl, rfl, rfl, rfl, rfl⟩ := h
                                  go_upto_region 24 with (first | (go_at_call 25; refine (thresherref13_Job.calls k5 q1 p q4 q5 q6 A5 cc5 xs q false _ HC.out HC2.out HA.out).mono ?_; rintro e w3 ⟨rfl, hb⟩; have HT3 := Aside0.mk (HT.out.below hb); have HO3 := Aside0.mk (own_below HO.out hb); clear hb; clear c0 c1 c2 c3 c4 c5 c6 cf0 cf1 cf2 cf3 cf4 cf5 cf6 g0 g1 e0 e1' e2' e3' e4' e5' e6'))
                                  obtain ⟨c0, c1, c2, c3, c4, c5, c6, cf0, cf1, cf2, cf3, cf4, cf5, cf6⟩ := blkall_7  HT3.out.res
                                  go_wp2
                                  obtain ⟨hrs, -⟩ := (Rs.mk HT3.out.res HT3.out.bel HT3.out.b2).set7 (.int .i64 0) (.string ⟨#[]⟩) (.int .i64 0) (.int .i64 0) (.int .i64 0) (.slice none 0 0) (.int .i64 0) (World.ownsRow_nil _ w.heap.size 3 1)
                                  clear c0 c1 c2 c3 c4 c5 c6 cf0 cf1 cf2 cf3 cf4 cf5 cf6
                                  generalize (((((((w3.setCell ⟨rv, 0, none⟩ (.int .i64 0)).setCell ⟨rv, 1, none⟩ (.string ⟨#[]⟩)).setCell ⟨rv, 2, none⟩ (.int .i64 0)).setCell ⟨rv, 3, none⟩ (.int .i64 0)).setCell ⟨rv, 4, none⟩ (.int .i64 0)).setCell ⟨rv, 5, none⟩ (.slice none 0 0)).setCell ⟨rv, 6, none⟩ (.int .i64 0)) = W7 at hrs ⊢
                                  (try simp only [Exit.inBlock, Exit.then])
                                  refine bodyPost_ret (v := .tuple #[.agg #[.int .i64 0, .string ⟨#[]⟩, .int .i64 0, .int .i64 0, .int .i64 0, .slice none 0 0, .int .i64 0], .int .i64 7]) (by exact ret63 (fn := Tryz.f31) (p := 2) (u := 3) rfl rfl hrs.blk rfl) rfl ⟨.slice none 0 0, rfl, Kd.R_nil _ _ _ _ _, hrs.bel⟩
                            · rw [if_neg he] at hl
                              have h := hl
                              have heb : (e' != 0) = true := by simpa using he
                              clear he hl
                              simp only [Option.some.injEq, Prod.mk.injEq] at h
                              obtain ⟨rfl, rfl, rfl, rfl, rfl, rfl, rfl, rfl⟩ := h
                              go_upto_region 22 with (fail)
                              obtain ⟨V, hV⟩ : ∃ V, V = (((((((W6.setCell ⟨rv, 0, none⟩ (.int .i64 0)).setCell ⟨rv, 1, none⟩ (.string ⟨#[]⟩)).setCell ⟨rv, 2, none⟩ (.int .i64 0)).setCell ⟨rv, 3, none⟩ (.int .i64 0)).setCell ⟨rv, 4, none⟩ (.int .i64 0)).setCell ⟨rv, 5, none⟩ (.slice none 0 0)).setCell ⟨rv, 6, none⟩ (.int .i64 0)) := ⟨_, rfl⟩
                              have hx : V.heap[g]? = W6.heap[g]? := by rw [hV]; exact far7 W6 (fun e => HT.out.n1 e.symm) _ _ _ _ _ _ _
                              have g1b : V.drew.cell? ⟨g, 1, none⟩ = some (.int .i64 e') := (World.cell?_of_block (a := ⟨g, 1, none⟩) (show V.drew.heap[g]? = W6.heap[g]? from hx)).trans g1
                              rw [hV] at g1b
                              clear hx hV
                              go_region
                              all_goals
                                obtain ⟨hrs, -⟩ := HRS.out.set7 (.int .i64 0) (.string ⟨#[]⟩) (.int .i64 0) (.int .i64 0) (.int .i64 0) (.slice none 0 0) (.int .i64 0) HO.out
                                clear g1b c0 c1 c2 c3 c4 c5 c6 cf0 cf1 cf2 cf3 cf4 cf5 cf6 g0 g1
                                generalize (((((((W6.setCell ⟨rv, 0, none⟩ (.int .i64 0)).setCell ⟨rv, 1, none⟩ (.string ⟨#[]⟩)).setCell ⟨rv, 2, none⟩ (.int .i64 0)).setCell ⟨rv, 3, none⟩ (.int .i64 0)).setCell ⟨rv, 4, none⟩ (.int .i64 0)).setCell ⟨rv, 5, none⟩ (.slice none 0 0)).setCell ⟨rv, 6, none⟩ (.int .i64 0)) = W7 at hrs ⊢
                                go_wp2
                                (try simp only [Exit.inBlock, Exit.then])
                                refine bodyPost_ret (v := .tuple #[.agg #[.int .i64 0, .string ⟨#[]⟩, .int .i64 0, .int .i64 0, .int .i64 0, .slice none 0 0, .int .i64 0], .int .i64 e']) (by exact ret63 (fn := Tryz.f31) (p := 2) (u := 3) rfl rfl (show (W7.drew).heap[rv]? = _ from hrs.blk) rfl) rfl ⟨.slice none 0 0, rfl, Kd.R_nil _ _ _ _ _, below_drew hrs.bel⟩
end Go.Proofs.YtpepmmfhanaipaaGreatDoor.PJobBytes
