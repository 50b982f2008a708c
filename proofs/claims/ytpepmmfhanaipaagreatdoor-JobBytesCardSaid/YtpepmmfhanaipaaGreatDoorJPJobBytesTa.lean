-- Put together by mergex.py out of this workplace's texts.
import Derived.Test.YtpepmmfhanaipaaGreatDoorJPJobBytesx4
import Derived.Test.YtpepmmfhanaipaaGreatDoorJPJobBytesx1
import Derived.Deep.DeepMust
import Derived.BigRegion
import Derived.Deep.RegionLaw
import Derived.Laws.AppendOwn
import Derived.Laws.ResultCell
namespace Go.Proofs.YtpepmmfhanaipaaGreatDoor.PJobBytes
open Go.RowKit Go.Proofs.YtpepmmfhanaipaaGreatDoorW.PrintWords Go.Proofs.YtpepmmfhanaipaaGreatDoorW.PrintLast Go.Proofs.YtpepmmfhanaipaaGreatDoorW.PrintMore
set_option linter.unusedVariables false
set_option linter.unusedSimpArgs false
theorem tk_lt {w : World} {g : Nat} {o : Obj} (h : w.heap[g]? = some o) : g < w.heap.size := (Array.getElem?_eq_some_iff.1 h).1
theorem tk_set {w : World} {g j : Nat} {t : TypeId} {cs : Array Value} {fr : Nat × Nat} (h : w.heap[g]? = some (.cells cs t fr)) (x : Value) : (w.setCell ⟨g, j, none⟩ x).heap[g]? = some (.cells (cs.setIfInBounds j x) t fr) := by
  simp [World.setCell, Array.getElem?_modify, h]
structure Tk (w W : World) (rv g jb : Nat) (s : ByteArray) (e : Int) (cs : Array Value) : Prop where
  rd : IsS114 w W g s e
  res : W.heap[rv]? = some (.cells #[.int .i64 0, .string ⟨#[]⟩, .int .i64 0, .int .i64 0, .int .i64 0, .slice none 0 0, .int .i64 0] 63 (0, 0))
  job : W.heap[jb]? = some (.cells cs 63 (0, 0))
  bel : Below w.heap.size w W
  n1 : rv ≠ g
  n2 : jb ≠ g
  n3 : jb ≠ rv
  b1 : w.heap.size ≤ jb
  b2 : w.heap.size ≤ rv
theorem Tk.call {w W W' : World} {rv g jb : Nat} {s s' : ByteArray} {e e' : Int} {cs : Array Value} (h : Tk w W rv g jb s e cs) (hi : IsS114 w W' g s' e') (hb : Below w.heap.size w W') (hk : KeepBut W W' g none) : Tk w W' rv g jb s' e' cs :=
  ⟨hi, hk.blk h.res h.n1 (by simp), hk.blk h.job h.n2 (by simp), hb, h.n1, h.n2, h.n3, h.b1, h.b2⟩
theorem Tk.set {w W : World} {rv g jb : Nat} {s : ByteArray} {e : Int} {cs : Array Value} (h : Tk w W rv g jb s e cs) (j : Nat) (v : Value) : Tk w (W.setCell ⟨jb, j, none⟩ v) rv g jb s e (cs.setIfInBounds j v) :=
  ⟨h.rd.far (p := ⟨jb, j, none⟩) (fun e => h.n2 e.symm) v, (Below.heap_setCell W ⟨jb, j, none⟩ v rv (fun e => h.n3 e.symm)).trans h.res, tk_set h.job v, h.bel.setCell (p := ⟨jb, j, none⟩) h.b1 v, h.n1, h.n2, h.n3, h.b1, h.b2⟩
theorem Tk.set_0 {w W : World} {rv g jb : Nat} {s : ByteArray} {e : Int} {a0 a1 a2 a3 a4 a5 a6 : Value} (h : Tk w W rv g jb s e #[a0, a1, a2, a3, a4, a5, a6]) (v : Value) : Tk w (W.setCell ⟨jb, 0, none⟩ v) rv g jb s e #[v, a1, a2, a3, a4, a5, a6] := h.set 0 v
theorem Tk.set_1 {w W : World} {rv g jb : Nat} {s : ByteArray} {e : Int} {a0 a1 a2 a3 a4 a5 a6 : Value} (h : Tk w W rv g jb s e #[a0, a1, a2, a3, a4, a5, a6]) (v : Value) : Tk w (W.setCell ⟨jb, 1, none⟩ v) rv g jb s e #[a0, v, a2, a3, a4, a5, a6] := h.set 1 v
theorem Tk.set_2 {w W : World} {rv g jb : Nat} {s : ByteArray} {e : Int} {a0 a1 a2 a3 a4 a5 a6 : Value} (h : Tk w W rv g jb s e #[a0, a1, a2, a3, a4, a5, a6]) (v : Value) : Tk w (W.setCell ⟨jb, 2, none⟩ v) rv g jb s e #[a0, a1, v, a3, a4, a5, a6] := h.set 2 v
theorem Tk.set_3 {w W : World} {rv g jb : Nat} {s : ByteArray} {e : Int} {a0 a1 a2 a3 a4 a5 a6 : Value} (h : Tk w W rv g jb s e #[a0, a1, a2, a3, a4, a5, a6]) (v : Value) : Tk w (W.setCell ⟨jb, 3, none⟩ v) rv g jb s e #[a0, a1, a2, v, a4, a5, a6] := h.set 3 v
theorem Tk.set_4 {w W : World} {rv g jb : Nat} {s : ByteArray} {e : Int} {a0 a1 a2 a3 a4 a5 a6 : Value} (h : Tk w W rv g jb s e #[a0, a1, a2, a3, a4, a5, a6]) (v : Value) : Tk w (W.setCell ⟨jb, 4, none⟩ v) rv g jb s e #[a0, a1, a2, a3, v, a5, a6] := h.set 4 v
theorem Tk.set_5 {w W : World} {rv g jb : Nat} {s : ByteArray} {e : Int} {a0 a1 a2 a3 a4 a5 a6 : Value} (h : Tk w W rv g jb s e #[a0, a1, a2, a3, a4, a5, a6]) (v : Value) : Tk w (W.setCell ⟨jb, 5, none⟩ v) rv g jb s e #[a0, a1, a2, a3, a4, v, a6] := h.set 5 v
theorem Tk.set_6 {w W : World} {rv g jb : Nat} {s : ByteArray} {e : Int} {a0 a1 a2 a3 a4 a5 a6 : Value} (h : Tk w W rv g jb s e #[a0, a1, a2, a3, a4, a5, a6]) (v : Value) : Tk w (W.setCell ⟨jb, 6, none⟩ v) rv g jb s e #[a0, a1, a2, a3, a4, a5, v] := h.set 6 v
theorem Tk.set7 {w W : World} {rv g jb : Nat} {s : ByteArray} {e : Int} {a0 a1 a2 a3 a4 a5 a6 : Value} (h : Tk w W rv g jb s e #[a0, a1, a2, a3, a4, a5, a6]) (v0 v1 v2 v3 v4 v5 v6 : Value) :
    Tk w (((((((W.setCell ⟨jb, 0, none⟩ v0).setCell ⟨jb, 1, none⟩ v1).setCell ⟨jb, 2, none⟩ v2).setCell ⟨jb, 3, none⟩ v3).setCell ⟨jb, 4, none⟩ v4).setCell ⟨jb, 5, none⟩ v5).setCell ⟨jb, 6, none⟩ v6) rv g jb s e #[v0, v1, v2, v3, v4, v5, v6] := by
  replace h := h.set_0 v0
  replace h := h.set_1 v1
  replace h := h.set_2 v2
  replace h := h.set_3 v3
  replace h := h.set_4 v4
  replace h := h.set_5 v5
  replace h := h.set_6 v6
  exact h
theorem Tk.begin {w W : World} {rv g : Nat} {s : ByteArray} {e : Int} (cs : Array Value) (hi : IsS114 w W g s e) (hr : W.heap[rv]? = some (.cells #[.int .i64 0, .string ⟨#[]⟩, .int .i64 0, .int .i64 0, .int .i64 0, .slice none 0 0, .int .i64 0] 63 (0, 0))) (hb : Below w.heap.size w W) (h1 : rv ≠ g) (h2 : w.heap.size ≤ rv) :
    Tk w (W.alloc (.cells cs 63)) rv g W.heap.size s e cs :=
  ⟨hi.alloc _, blk_alloc hr _, heap_alloc_new W _, below_alloc hb _, h1, fun e => Nat.lt_irrefl _ (e ▸ hi.lt), fun e => Nat.lt_irrefl _ (e ▸ tk_lt hr), hb.size, h2⟩
theorem Tk.below {w W W' : World} {rv g jb : Nat} {s : ByteArray} {e : Int} {cs : Array Value} (h : Tk w W rv g jb s e cs) (hb : Below W.heap.size W W') : Tk w W' rv g jb s e cs :=
  ⟨h.rd.below hb, (hb.block _ (tk_lt h.res)).trans h.res, (hb.block _ (tk_lt h.job)).trans h.job, h.bel.trans (hb.mono h.bel.size), h.n1, h.n2, h.n3, h.b1, h.b2⟩
theorem Tk.grown {w W W' : World} {rv g jb : Nat} {s : ByteArray} {e : Int} {cs : Array Value} (h : Tk w W rv g jb s e cs) {v : Value} {n : Nat} {xs : List Value} (ho : W.ownsRow w.heap.size 3 1 v n xs) (hg : W.grownBy W' v.ownBlock) : Tk w W' rv g jb s e cs := by
  have far : ∀ {b : Nat} {cs : Array Value} {t : TypeId}, W.heap[b]? = some (.cells cs t (0, 0)) → t ≠ 3 → some b ≠ v.ownBlock := fun hb ht e => by
    obtain ⟨cells, hc⟩ := own_typed ho _ e.symm
    rw [hc] at hb
    injection hb with hb
    injection hb with _ hb _
    exact ht hb.symm
  have hrd : W.heap[g]? = some (.cells #[.string s, .int .i64 e] 114 (0, 0)) := h.rd.1
  exact ⟨⟨(hg.block _ (tk_lt hrd) (far hrd (by decide))).trans hrd, h.rd.2⟩, (hg.block _ (tk_lt h.res) (far h.res (by decide))).trans h.res, (hg.block _ (tk_lt h.job) (far h.job (by decide))).trans h.job,
    h.bel.grown hg h.bel.size (fun k e => own_base ho k e), h.n1, h.n2, h.n3, h.b1, h.b2⟩
theorem own_setj {w W : World} {rv g jb : Nat} {s : ByteArray} {e : Int} {cs : Array Value} (h : Tk w W rv g jb s e cs) {v : Value} {n : Nat} {xs : List Value} (ho : W.ownsRow w.heap.size 3 1 v n xs) (j : Nat) (x : Value) : (W.setCell ⟨jb, j, none⟩ x).ownsRow w.heap.size 3 1 v n xs := by
  refine own_move ho fun k hk => Below.heap_setCell W ⟨jb, j, none⟩ x k ?_
  rintro rfl
  obtain ⟨cells, hc⟩ := own_typed ho _ hk
  have := h.job
  rw [hc] at this
  injection this with hb
  injection hb with _ hb _
  exact absurd hb (by decide)
theorem own_keep {w W W' : World} {g : Nat} {s : ByteArray} {e : Int} {v : Value} {n : Nat} {xs : List Value} (hr : IsS114 w W g s e) (ho : W.ownsRow w.heap.size 3 1 v n xs) (hk : KeepBut W W' g none) : W'.ownsRow w.heap.size 3 1 v n xs := by
  refine own_move ho fun k e => hk.2 k (own_lt ho k e) ?_ (by simp)
  rintro rfl
  obtain ⟨cells, hc⟩ := own_typed ho _ e
  have := hr.1
  rw [hc] at this
  injection this with hb
  injection hb with _ hb _
  exact absurd hb (by decide)
theorem tk_slice {w : World} {B e size n : Nat} {v : Value} {xs : List Value} (h : w.ownsRow B e size v n xs) : ∃ A c, v = .slice A n c := by
  rcases h.2 with ⟨rfl, rfl⟩ | ⟨g, cap, cur, rfl, _⟩
  · exact ⟨_, _, rfl⟩
  · exact ⟨_, _, rfl⟩
theorem own_below {w W W' : World} {v : Value} {n : Nat} {xs : List Value} (ho : W.ownsRow w.heap.size 3 1 v n xs) (hb : Below W.heap.size W W') : W'.ownsRow w.heap.size 3 1 v n xs := own_move ho (fun k e => hb.block k (own_lt ho k e))
theorem step_int {ops : Array Oper} {o : Oper} {a : Act} {K : Act → World → Prop} {Q : Exit → Act → World → Prop} {E : Prop} {W : World} (n : Int) (hgd : o.guard = none) (s x : Operand)
    (ho : o.op = .call { callee := .builtin .append, args := #[s, x], argTypes := #[52, 52] }) (v : Value) (B m : Nat) (xs : List Value) (hs : a.eval s = v) (hx : a.eval x = .slice (some ⟨W.heap.size, 0, none⟩) 1 1)
    (hown : W.ownsRow B 3 1 v m xs) (hm : m < 17592186044416) (hB : B ≤ W.heap.size)
    (h : ∀ g cap w', w'.ownsRow B 3 1 (.slice (some ⟨g, 0, none⟩) (m + 1) cap) (m + 1) (xs ++ [.int .i64 n]) → (W.alloc (.cells #[.int .i64 n] 3)).grownBy w' v.ownBlock → K (a.put o.dst (.slice (some ⟨g, 0, none⟩) (m + 1) cap)) w') :
    if Region.wanted o (yielded ops a.tmps) = true then Oper.wp Tryz.prog o a (W.alloc (.cells #[.int .i64 n] 3)) K Q else E := by
  obtain ⟨i0, hi, hz0, hz1, hz2⟩ := info_parts info3
  exact step_append_lies (w := W.alloc (.cells #[.int .i64 n] 3)) hgd s x 52 ho B 3 i0 (.int .i64 0) 1 8 Tryz.underlying52 hi hz0 hz1 hz2 rfl (by decide) v m xs hs (own_move hown (fun k e => below_alloc (Below.refl _ W) _ |>.block k (own_lt hown k e))) ⟨W.heap.size, 0, none⟩ 1 1 [.int .i64 n] hx rfl (World.news_of_block (cs := #[.int .i64 n]) (t := 3) (fr := (0, 0)) (heap_alloc_new W _)) (by intro u hu; simp only [List.mem_cons, List.not_mem_nil, or_false] at hu; subst hu; rfl) (by omega) (by unfold maxLen; omega) (by omega) (by simp; omega) _ rfl (fun g cap w' h1 h2 _ _ => h g cap w' h1 h2)
theorem ret63 {fn : Func} {p u : Tmp} (h : fn.results = #[.cell p 63, .tmp u]) {tmps : Array Value} {w : World} {g : Nat} {t : TypeId} {cs : Array Value} {fr : Nat × Nat} (hp : tmps.getD p undef = .pointer (some ⟨g, 0, none⟩)) (hg : w.heap[g]? = some (.cells cs t fr)) (hc : cs.size = 7) :
    (results fn tmps).run Tryz.prog w = .ok (.tuple #[.agg cs, tmps.getD u undef]) w := by
  have hi : (Tryz.prog.info? 63).map (·.size) = some 7 := by kernel_rfl
  rw [results_cell_tmp h, hp]
  have := run_loadVar_row (P := Tryz.prog) w g t 63 cs fr _ hg Tryz.underlying63 rfl (by rw [hc]; exact hi)
  simp only [asAddr, Sem.run_pure, Result.andThen_ok, this]
structure Rs (w W : World) (b : Nat) (cs : Array Value) : Prop where
  blk : W.heap[b]? = some (.cells cs 63 (0, 0))
  bel : Below w.heap.size w W
  ge : w.heap.size ≤ b
theorem Rs.set {w W : World} {b : Nat} {cs : Array Value} (h : Rs w W b cs) (j : Nat) (v : Value) : Rs w (W.setCell ⟨b, j, none⟩ v) b (cs.setIfInBounds j v) :=
  ⟨tk_set h.blk v, h.bel.setCell (p := ⟨b, j, none⟩) h.ge v, h.ge⟩
theorem Rs.own {w W : World} {b : Nat} {cs : Array Value} (h : Rs w W b cs) {v : Value} {n : Nat} {xs : List Value} (ho : W.ownsRow w.heap.size 3 1 v n xs) (j : Nat) (x : Value) : (W.setCell ⟨b, j, none⟩ x).ownsRow w.heap.size 3 1 v n xs := by
  refine own_move ho fun k hk => Below.heap_setCell W ⟨b, j, none⟩ x k ?_
  rintro rfl
  obtain ⟨cells, hc⟩ := own_typed ho _ hk
  have := h.blk
  rw [hc] at this
  injection this with hb
  injection hb with _ hb _
  exact absurd hb (by decide)
theorem Rs.set_0 {w W : World} {b : Nat} {a0 a1 a2 a3 a4 a5 a6 : Value} (h : Rs w W b #[a0, a1, a2, a3, a4, a5, a6]) (v : Value) : Rs w (W.setCell ⟨b, 0, none⟩ v) b #[v, a1, a2, a3, a4, a5, a6] := h.set 0 v
theorem Rs.set_1 {w W : World} {b : Nat} {a0 a1 a2 a3 a4 a5 a6 : Value} (h : Rs w W b #[a0, a1, a2, a3, a4, a5, a6]) (v : Value) : Rs w (W.setCell ⟨b, 1, none⟩ v) b #[a0, v, a2, a3, a4, a5, a6] := h.set 1 v
theorem Rs.set_2 {w W : World} {b : Nat} {a0 a1 a2 a3 a4 a5 a6 : Value} (h : Rs w W b #[a0, a1, a2, a3, a4, a5, a6]) (v : Value) : Rs w (W.setCell ⟨b, 2, none⟩ v) b #[a0, a1, v, a3, a4, a5, a6] := h.set 2 v
theorem Rs.set_3 {w W : World} {b : Nat} {a0 a1 a2 a3 a4 a5 a6 : Value} (h : Rs w W b #[a0, a1, a2, a3, a4, a5, a6]) (v : Value) : Rs w (W.setCell ⟨b, 3, none⟩ v) b #[a0, a1, a2, v, a4, a5, a6] := h.set 3 v
theorem Rs.set_4 {w W : World} {b : Nat} {a0 a1 a2 a3 a4 a5 a6 : Value} (h : Rs w W b #[a0, a1, a2, a3, a4, a5, a6]) (v : Value) : Rs w (W.setCell ⟨b, 4, none⟩ v) b #[a0, a1, a2, a3, v, a5, a6] := h.set 4 v
theorem Rs.set_5 {w W : World} {b : Nat} {a0 a1 a2 a3 a4 a5 a6 : Value} (h : Rs w W b #[a0, a1, a2, a3, a4, a5, a6]) (v : Value) : Rs w (W.setCell ⟨b, 5, none⟩ v) b #[a0, a1, a2, a3, a4, v, a6] := h.set 5 v
theorem Rs.set_6 {w W : World} {b : Nat} {a0 a1 a2 a3 a4 a5 a6 : Value} (h : Rs w W b #[a0, a1, a2, a3, a4, a5, a6]) (v : Value) : Rs w (W.setCell ⟨b, 6, none⟩ v) b #[a0, a1, a2, a3, a4, a5, v] := h.set 6 v
theorem Rs.set7 {w W : World} {b : Nat} {a0 a1 a2 a3 a4 a5 a6 : Value} (h : Rs w W b #[a0, a1, a2, a3, a4, a5, a6]) (v0 v1 v2 v3 v4 v5 v6 : Value) {u : Value} {n : Nat} {xs : List Value} (ho : W.ownsRow w.heap.size 3 1 u n xs) :
    Rs w (((((((W.setCell ⟨b, 0, none⟩ v0).setCell ⟨b, 1, none⟩ v1).setCell ⟨b, 2, none⟩ v2).setCell ⟨b, 3, none⟩ v3).setCell ⟨b, 4, none⟩ v4).setCell ⟨b, 5, none⟩ v5).setCell ⟨b, 6, none⟩ v6) b #[v0, v1, v2, v3, v4, v5, v6] ∧
    (((((((W.setCell ⟨b, 0, none⟩ v0).setCell ⟨b, 1, none⟩ v1).setCell ⟨b, 2, none⟩ v2).setCell ⟨b, 3, none⟩ v3).setCell ⟨b, 4, none⟩ v4).setCell ⟨b, 5, none⟩ v5).setCell ⟨b, 6, none⟩ v6).ownsRow w.heap.size 3 1 u n xs := by
  replace ho := h.own ho 0 v0
  replace h := h.set_0 v0
  replace ho := h.own ho 1 v1
  replace h := h.set_1 v1
  replace ho := h.own ho 2 v2
  replace h := h.set_2 v2
  replace ho := h.own ho 3 v3
  replace h := h.set_3 v3
  replace ho := h.own ho 4 v4
  replace h := h.set_4 v4
  replace ho := h.own ho 5 v5
  replace h := h.set_5 v5
  replace ho := h.own ho 6 v6
  replace h := h.set_6 v6
  exact ⟨h, ho⟩
theorem far7 (W : World) {b g : Nat} (hne : g ≠ b) (v0 v1 v2 v3 v4 v5 v6 : Value) : (((((((W.setCell ⟨b, 0, none⟩ v0).setCell ⟨b, 1, none⟩ v1).setCell ⟨b, 2, none⟩ v2).setCell ⟨b, 3, none⟩ v3).setCell ⟨b, 4, none⟩ v4).setCell ⟨b, 5, none⟩ v5).setCell ⟨b, 6, none⟩ v6).heap[g]? = W.heap[g]? := by
  rw [Below.heap_setCell _ _ _ _ hne, Below.heap_setCell _ _ _ _ hne, Below.heap_setCell _ _ _ _ hne, Below.heap_setCell _ _ _ _ hne, Below.heap_setCell _ _ _ _ hne, Below.heap_setCell _ _ _ _ hne, Below.heap_setCell _ _ _ _ hne]
set_option maxHeartbeats 1000000 in
set_option maxRecDepth 100000 in
theorem job_Take.calls (k : Nat) (a0 : ByteArray) (r1 : Int) (r2 : ByteArray) (r3 : Int) (r4 : Int) (r5 : Int) (r6 : List Int) (r7 : Int) (r8 : Int) (w : World) (h : job_Take.f k a0 = some (r1, r2, r3, r4, r5, r6, r7, r8)) :
  Calls Tryz.prog 29 #[.string a0] w fun e w' => ∃ v5_ : Value, e = .returned (.tuple #[.agg #[.int .i64 r1, .string r2, .int .i64 r3, .int .i64 r4, .int .i64 r5, v5_, .int .i64 r7], .int .i64 r8]) ∧ Kd.R (Kd.int .i64) 3 w' w.heap.size (fun _ => True) v5_ r6 ∧ Below w.heap.size w w' := by
  have hu63 := Tryz.underlying63
  have hu114 := Tryz.underlying114
  unfold job_Take.f at h
  replace h := Option.bind_eq_some_iff.mp h
  obtain ⟨⟨q1, s1, e1⟩, A1, h⟩ := h
  replace h := Option.bind_eq_some_iff.mp h
  obtain ⟨⟨q2, s2, e2⟩, A2, h⟩ := h
  replace h := Option.bind_eq_some_iff.mp h
  obtain ⟨⟨q3, s3, e3⟩, A3, h⟩ := h
  replace h := Option.bind_eq_some_iff.mp h
  obtain ⟨⟨q4, s4, e4⟩, A4, h⟩ := h
  replace h := Option.bind_eq_some_iff.mp h
  obtain ⟨⟨q5, s5, e5⟩, A5, h⟩ := h
  replace h := Option.bind_eq_some_iff.mp h
  obtain ⟨⟨q6, s6, e6⟩, A6, h⟩ := h
  replace h := Option.bind_eq_some_iff.mp h
  obtain ⟨⟨q7, s7, e7⟩, A7, h⟩ := h
  simp only at A2 A3 A4 A5 A6 A7 h
  have H1 := Aside0.mk A1
  have H2 := Aside0.mk A2
  have H3 := Aside0.mk A3
  have H4 := Aside0.mk A4
  have H5 := Aside0.mk A5
  have H6 := Aside0.mk A6
  have H7 := Aside0.mk A7
  have HL := Aside0.mk h
  clear A1 A2 A3 A4 A5 A6 A7 h
  go_enter Tryz.func29, Tryz.ntmps29
  go_upto_region 2 with (fail)
  have HB0 : Aside0 (Below w.heap.size w ((w.alloc (.cells #[.int .i64 0, .string ⟨#[]⟩, .int .i64 0, .int .i64 0, .int .i64 0, .slice none 0 0, .int .i64 0] 63)).alloc (.cells #[.string a0, .int .i64 0] 114))) := ⟨below_alloc (below_alloc (Below.refl _ _) _) _⟩
  have HI0 : Aside0 (IsS114 w ((w.alloc (.cells #[.int .i64 0, .string ⟨#[]⟩, .int .i64 0, .int .i64 0, .int .i64 0, .slice none 0 0, .int .i64 0] 63)).alloc (.cells #[.string a0, .int .i64 0] 114)) (w.heap.size + 1) a0 0) := ⟨by
    have := IsS114.new w (w.alloc (.cells #[.int .i64 0, .string ⟨#[]⟩, .int .i64 0, .int .i64 0, .int .i64 0, .slice none 0 0, .int .i64 0] 63)) a0 0 (below_alloc (Below.refl _ _) _)
    simpa using this⟩
  have HR0 : Aside0 (((w.alloc (.cells #[.int .i64 0, .string ⟨#[]⟩, .int .i64 0, .int .i64 0, .int .i64 0, .slice none 0 0, .int .i64 0] 63)).alloc (.cells #[.string a0, .int .i64 0] 114)).heap[w.heap.size]? = some (.cells #[.int .i64 0, .string ⟨#[]⟩, .int .i64 0, .int .i64 0, .int .i64 0, .slice none 0 0, .int .i64 0] 63 (0, 0))) := ⟨blk_alloc (heap_alloc_new w _) _⟩
  have HN0 : Aside0 (w.heap.size ≠ w.heap.size + 1) := ⟨by omega⟩
  have HN1 : Aside0 (w.heap.size ≤ w.heap.size) := ⟨Nat.le_refl _⟩
  generalize (w.alloc (.cells #[.int .i64 0, .string ⟨#[]⟩, .int .i64 0, .int .i64 0, .int .i64 0, .slice none 0 0, .int .i64 0] 63)).alloc (.cells #[.string a0, .int .i64 0] 114) = W1 at HB0 HI0 HR0 ⊢
  obtain ⟨g, hg⟩ : ∃ g, g = w.heap.size + 1 := ⟨_, rfl⟩
  rw [← hg] at HI0 HN0 ⊢
  clear hg
  obtain ⟨rv, hrv⟩ : ∃ rv, rv = w.heap.size := ⟨_, rfl⟩
  replace HN1 : Aside0 (w.heap.size ≤ rv) := ⟨hrv ▸ HN1.out⟩
  replace HR0 : Aside0 (W1.heap[rv]? = _) := ⟨hrv ▸ HR0.out⟩
  replace HN0 : Aside0 (rv ≠ g) := ⟨hrv ▸ HN0.out⟩
  rw [← hrv]
  clear hrv
  go_upto_region 3 with (first | (go_at_call 62; refine (job_reader_number.calls k g a0 0 q1 s1 e1 w _ HI0.out HB0.out H1.out).mono ?_; rintro e w2 ⟨rfl, hi, hb, hk⟩; have HT := Aside0.mk (Tk.begin #[.int .i64 q1, .string ⟨#[]⟩, .int .i64 0, .int .i64 0, .int .i64 0, .slice none 0 0, .int .i64 0] hi (hk.blk HR0.out HN0.out (by simp)) hb HN0.out HN1.out); clear hi hb hk))
  generalize hjb : w2.heap.size = jb at HT ⊢
  clear hjb
  generalize w2.alloc (.cells #[.int .i64 q1, .string ⟨#[]⟩, .int .i64 0, .int .i64 0, .int .i64 0, .slice none 0 0, .int .i64 0] 63) = W3 at HT ⊢
  clear HB0 HI0 HR0 HN0 HN1
  go_upto_region 4 with (first | (go_at_call 64; refine (job_reader_many.calls k g s1 e1 512 q2 s2 e2 w _ HT.out.rd HT.out.bel H2.out).mono ?_; rintro e w3 ⟨rfl, hi, hb, hk⟩; have HT2 := Aside0.mk (HT.out.call hi hb hk); clear hi hb hk) | (go_at_call 63; refine (job_reader_text.calls k g s2 e2 q2 q3 s3 e3 w _ HT2.out.rd HT2.out.bel H3.out).mono ?_; rintro e w4 ⟨rfl, hi, hb, hk⟩; have HT3 := Aside0.mk (HT2.out.call hi hb hk); clear hi hb hk; obtain ⟨c0, c1, c2, c3, c4, c5, c6, f0, f1, f2, f3, f4, f5, f6⟩ := blkall_7 HT3.out.job))
  have HT4 := Aside0.mk (HT3.out.set_1 (.string q3))
  clear c0 c1 c2 c3 c4 c5 c6 f0 f1 f2 f3 f4 f5 f6
  generalize (w4.setCell ⟨jb, 1, none⟩ (.string q3)) = W4 at HT4 ⊢
  clear HT HT2 HT3
  have HT := HT4
  clear HT4
  go_upto_region 5 with (first | (go_at_call 62; refine (job_reader_number.calls k g s3 e3 q4 s4 e4 w _ HT.out.rd HT.out.bel H4.out).mono ?_; clear H4; rintro e w5 ⟨rfl, hi, hb, hk⟩; have HT2 := Aside0.mk (HT.out.call hi hb hk); clear hi hb hk) | (go_at_call 62; refine (job_reader_number.calls k g s4 e4 q5 s5 e5 w _ HT2.out.rd HT2.out.bel H5.out).mono ?_; clear H5; rintro e w6 ⟨rfl, hi, hb, hk⟩; have HT3 := Aside0.mk (HT2.out.call hi hb hk); clear hi hb hk) | (go_at_call 62; refine (job_reader_number.calls k g s5 e5 q6 s6 e6 w _ HT3.out.rd HT3.out.bel H6.out).mono ?_; clear H6; rintro e w7 ⟨rfl, hi, hb, hk⟩; have HT4 := Aside0.mk (HT3.out.call hi hb hk); clear hi hb hk; obtain ⟨c0, c1, c2, c3, c4, c5, c6, f0, f1, f2, f3, f4, f5, f6⟩ := blkall_7 HT4.out.job))
  have HT5 := Aside0.mk (((HT4.out.set_2 (.int .i64 q4)).set_3 (.int .i64 q5)).set_4 (.int .i64 q6))
  clear c0 c1 c2 c3 c4 c5 c6 f0 f1 f2 f3 f4 f5 f6
  generalize (((w7.setCell ⟨jb, 2, none⟩ (.int .i64 q4)).setCell ⟨jb, 3, none⟩ (.int .i64 q5)).setCell ⟨jb, 4, none⟩ (.int .i64 q6)) = W5 at HT5 ⊢
  clear HT HT2 HT3 HT4
  have HT := HT5
  clear HT5
  go_upto_region 6 with (first | (go_at_call 64; refine (job_reader_many.calls k g s6 e6 6 q7 s7 e7 w _ HT.out.rd HT.out.bel H7.out).mono ?_; rintro e w8 ⟨rfl, hi, hb, hk⟩; have HT2 := Aside0.mk (HT.out.call hi hb hk); clear hi hb hk))
  clear HT
  have HT := HT2
  clear HT2 H1 H2 H3 H7
  go_loopg [28] k (fun kq v28 w' => ∃ (i : Int) (s : ByteArray) (e : Int) (xs : List Int) (v : Value), v28 = .int .i64 i ∧ Aside0 (job_Take.l0 kq q7 i s e q1 q3 q4 q5 q6 xs 0 = some (r1, r2, r3, r4, r5, r6, r7, r8)) ∧ Aside0 (Tk w w' rv g jb s e #[.int .i64 q1, .string q3, .int .i64 q4, .int .i64 q5, .int .i64 q6, v, .int .i64 0]) ∧ Aside0 (w'.ownsRow w.heap.size 3 1 v xs.length (xs.map (Value.int .i64))))
  case atStart => exact ⟨0, s7, e7, [], .slice none 0 0, rfl, HL, HT, ⟨World.ownsRow_nil _ _ _ _⟩⟩
  case round =>
    clear HL HT
    obtain ⟨i, s, e, xs, v, rfl, HL, HT, HO⟩ := hrel
    obtain ⟨A5, cc5, rfl⟩ := tk_slice HO.out
    cases gk with
    | zero => exact absurd HL.out (by simp [job_Take.l0])
    | succ k1 =>
      have hl := HL.out
      simp only [job_Take.l0] at hl
      clear HL
      by_cases hi : i < q7
      · rw [if_pos hi] at hl
        replace hl := Option.bind_eq_some_iff.mp hl
        obtain ⟨⟨q, s', e'⟩, A, hl⟩ := hl
        simp only at hl
        by_cases hx : xs.length < 17592186044416
        · rw [if_pos hx] at hl
          have HA := Aside0.mk A
          have HL := Aside0.mk hl
          have HX := Aside0.mk hx
          have hib := decide_eq_true hi
          clear A hl hx hi
          obtain ⟨c0, c1, c2, c3, c4, c5, c6, f0, f1, f2, f3, f4, f5, f6⟩ := blkall_7 HT.out.job
          go_upto_region 7 with (fail)
          have HTd := Aside0.mk (HT.out.below (W' := wr.drew) (below_drew (Below.refl _ _)))
          have HOd := Aside0.mk (own_below (W' := wr.drew) HO.out (below_drew (Below.refl _ _)))
          go_region_law (first
            | (go_simp; go_at_call 62; refine (job_reader_number.calls k1 g s e q s' e' w _ HTd.out.rd HTd.out.bel HA.out).mono ?_; rintro e w2 ⟨rfl, hi2, hb2, hk2⟩; have HT2 := Aside0.mk (HTd.out.call hi2 hb2 hk2); have HO2 := Aside0.mk (own_keep HTd.out.rd HOd.out hk2); clear hi2 hb2 hk2; obtain ⟨d0, d1, d2, d3, d4, d5, d6, j0, j1, j2, j3, j4, j5, j6⟩ := blkall_7 HT2.out.job; have u5 := (blkall_7 (HT2.out.below (W' := w2.alloc (.cells #[.int .i64 q] 3)) (below_alloc (Below.refl _ _) _)).job).2.2.2.2.2.1)
            | (refine step_int q rfl _ _ rfl (.slice A5 xs.length cc5) w.heap.size xs.length _ rfl rfl HO2.out HX.out HT2.out.bel.size ?_; intro g5 cap5 w5 hown hg; have HT3 := Aside0.mk ((HT2.out.below (below_alloc (Below.refl _ _) _)).grown (own_below HO2.out (below_alloc (Below.refl _ _) _)) hg); have HO3 := Aside0.mk hown; clear hown hg; obtain ⟨m0, m1, m2, m3, m4, m5, m6, n0, n1, n2, n3, n4, n5, n6⟩ := blkall_7 HT3.out.job))
          all_goals
            have HT4 := Aside0.mk (HT3.out.set_5 (.slice (some ⟨g5, 0, none⟩) (xs.length + 1) cap5))
            have HO4 := Aside0.mk (own_setj HT3.out HO3.out 5 (.slice (some ⟨g5, 0, none⟩) (xs.length + 1) cap5))
            clear c0 c1 c2 c3 c4 c5 c6 f0 f1 f2 f3 f4 f5 f6 d0 d1 d2 d3 d4 d5 d6 j0 j1 j2 j3 j4 j5 j6 u5 m0 m1 m2 m3 m4 m5 m6 n0 n1 n2 n3 n4 n5 n6
            generalize w5.setCell ⟨jb, 5, none⟩ (.slice (some ⟨g5, 0, none⟩) (xs.length + 1) cap5) = W6 at HT4 HO4 ⊢
            go_wp2
            go_roundg k1
            case measure => omega
            case rel => exact ⟨wrap64 (i + 1), s', e', xs ++ [q], _, by first | rfl | (simp [i64_w]; done), HL, HT4, ⟨by have := HO4.out; rw [List.length_append, List.map_append]; exact this⟩⟩
        · rw [if_neg hx] at hl
          cases hl
      · rw [if_neg hi] at hl
        replace hl := Option.bind_eq_some_iff.mp hl
        obtain ⟨⟨q, s', e'⟩, A, hl⟩ := hl
        simp only at hl
        have HA := Aside0.mk A
        have hib := decide_eq_false hi
        clear A hi
        go_upto_region 10 with (first | (go_at_call 62; refine (job_reader_number.calls k1 g s e q s' e' w _ HT.out.rd HT.out.bel HA.out).mono ?_; rintro e w2 ⟨rfl, hi2, hb2, hk2⟩; have HT2 := Aside0.mk (HT.out.call hi2 hb2 hk2); have HO2 := Aside0.mk (own_keep HT.out.rd HO.out hk2); clear hi2 hb2 hk2; obtain ⟨d0, d1, d2, d3, d4, d5, d6, j0, j1, j2, j3, j4, j5, j6⟩ := blkall_7 HT2.out.job))
        have HT4 := Aside0.mk (HT2.out.set_6 (.int .i64 q))
        have HO4 := Aside0.mk (own_setj HT2.out HO2.out 6 (.int .i64 q))
        clear d0 d1 d2 d3 d4 d5 d6 j0 j1 j2 j3 j4 j5 j6
        generalize w2.setCell ⟨jb, 6, none⟩ (.int .i64 q) = W6 at HT4 HO4 ⊢
        clear HT HO HT2 HO2 HA
        have HT := HT4
        have HO := HO4
        clear HT4 HO4
        have hg2 : W6.heap[g]? = some (.cells #[.string s', .int .i64 e'] 114 (0, 0)) := HT.out.rd.1
        have g0 := cellS114_0 hg2
        have g1 := cellS114_1 hg2
        have HG := Aside0.mk hg2
        clear hg2
        have HRS := Aside0.mk (Rs.mk HT.out.res HT.out.bel HT.out.b2)
        obtain ⟨c0, c1, c2, c3, c4, c5, c6, f0, f1, f2, f3, f4, f5, f6⟩ := blkall_7 HT.out.res
        by_cases he : e' = 0
        · subst he
          rw [if_pos rfl] at hl
          have hrd := Kd.R_of_own (enc := Value.int .i64) (h1 := fun _ => rfl) (ok := fun _ => True) HO.out (fun _ _ => trivial)
          have hrd2 := Kd.R_reads' hrd
          by_cases hs : s'.toList = []
          · rw [if_pos hs] at hl
            replace hl := Option.bind_eq_some_iff.mp hl
            obtain ⟨tc, A, hl⟩ := hl
            have HA := Aside0.mk A
            have HC := Aside0.mk hrd2.2.2
            have HC2 := Aside0.mk hrd2.2.1
            have hs1 : s'.toList.isEmpty = true := by rw [hs]; rfl
            have hs2 : (!s'.toList.isEmpty) = false := by rw [hs]; rfl
            have hs3 : (s'.toList == (⟨#[]⟩ : ByteArray).toList) = true := by rw [hs, ByteArray.toList_eq]; rfl
            have hs4 : (s'.toList != (⟨#[]⟩ : ByteArray).toList) = false := by rw [hs, ByteArray.toList_eq]; rfl
            clear A hrd hrd2
            obtain ⟨e0, e1', e2', e3', e4', e5', e6', -⟩ := blkall_7 HT.out.job
            by_cases htc : tc = 0
            · subst htc
              rw [if_pos rfl] at hl
              simp only [Option.some.injEq, Prod.mk.injEq] at hl
              obtain ⟨rfl, rfl, rfl, rfl, rfl, rfl, rfl, rfl⟩ := hl
              go_upto_region 14 with (first | (go_at_call 28; refine (job_Check.calls k1 q1 q3 q4 q5 q6 A5 cc5 xs q 0 _ HC.out HC2.out HA.out).mono ?_; rintro e w3 ⟨rfl, hb⟩; have HT3 := Aside0.mk (HT.out.below hb); have HO3 := Aside0.mk (own_below HO.out hb); clear hb; clear c0 c1 c2 c3 c4 c5 c6 f0 f1 f2 f3 f4 f5 f6 g0 g1 e0 e1' e2' e3' e4' e5' e6'))
              obtain ⟨c0, c1, c2, c3, c4, c5, c6, f0, f1, f2, f3, f4, f5, f6⟩ := blkall_7 HT3.out.res
              obtain ⟨e0, e1', e2', e3', e4', e5', e6', -⟩ := blkall_7 HT3.out.job
              go_wp2
              obtain ⟨hrs, hos⟩ := (Rs.mk HT3.out.res HT3.out.bel HT3.out.b2).set7 (.int .i64 q1) (.string q3) (.int .i64 q4) (.int .i64 q5) (.int .i64 q6) (.slice A5 xs.length cc5) (.int .i64 q) HO3.out
              clear c0 c1 c2 c3 c4 c5 c6 f0 f1 f2 f3 f4 f5 f6 e0 e1' e2' e3' e4' e5' e6'
              generalize (((((((w3.setCell ⟨rv, 0, none⟩ (.int .i64 q1)).setCell ⟨rv, 1, none⟩ (.string q3)).setCell ⟨rv, 2, none⟩ (.int .i64 q4)).setCell ⟨rv, 3, none⟩ (.int .i64 q5)).setCell ⟨rv, 4, none⟩ (.int .i64 q6)).setCell ⟨rv, 5, none⟩ (.slice A5 xs.length cc5)).setCell ⟨rv, 6, none⟩ (.int .i64 q)) = W7 at hrs hos ⊢
              (try simp only [Exit.inBlock, Exit.then])
              refine bodyPost_ret (v := .tuple #[.agg #[.int .i64 q1, .string q3, .int .i64 q4, .int .i64 q5, .int .i64 q6, .slice A5 xs.length cc5, .int .i64 q], .int .i64 0]) (by exact ret63 (fn := Tryz.f29) (p := 2) (u := 3) rfl rfl hrs.blk rfl) rfl ⟨.slice A5 xs.length cc5, rfl, Kd.R_of_own hos (fun _ _ => trivial), hrs.bel⟩
            · rw [if_neg htc] at hl
              have htb : (tc != 0) = true := by simpa using htc
              clear htc
              simp only [Option.some.injEq, Prod.mk.injEq] at hl
              obtain ⟨rfl, rfl, rfl, rfl, rfl, rfl, rfl, rfl⟩ := hl
              go_upto_region 13 with (first | (go_at_call 28; refine (job_Check.calls k1 q1 q3 q4 q5 q6 A5 cc5 xs q tc _ HC.out HC2.out HA.out).mono ?_; rintro e w3 ⟨rfl, hb⟩; have HT3 := Aside0.mk (HT.out.below hb); have HO3 := Aside0.mk (own_below HO.out hb); clear hb; clear c0 c1 c2 c3 c4 c5 c6 f0 f1 f2 f3 f4 f5 f6 g0 g1 e0 e1' e2' e3' e4' e5' e6'))
              obtain ⟨c0, c1, c2, c3, c4, c5, c6, f0, f1, f2, f3, f4, f5, f6⟩ := blkall_7 HT3.out.res
              go_wp2
              obtain ⟨hrs, -⟩ := (Rs.mk HT3.out.res HT3.out.bel HT3.out.b2).set7 (.int .i64 0) (.string ⟨#[]⟩) (.int .i64 0) (.int .i64 0) (.int .i64 0) (.slice none 0 0) (.int .i64 0) HO3.out
              clear c0 c1 c2 c3 c4 c5 c6 f0 f1 f2 f3 f4 f5 f6
              generalize (((((((w3.setCell ⟨rv, 0, none⟩ (.int .i64 0)).setCell ⟨rv, 1, none⟩ (.string ⟨#[]⟩)).setCell ⟨rv, 2, none⟩ (.int .i64 0)).setCell ⟨rv, 3, none⟩ (.int .i64 0)).setCell ⟨rv, 4, none⟩ (.int .i64 0)).setCell ⟨rv, 5, none⟩ (.slice none 0 0)).setCell ⟨rv, 6, none⟩ (.int .i64 0)) = W7 at hrs ⊢
              (try simp only [Exit.inBlock, Exit.then])
              refine bodyPost_ret (v := .tuple #[.agg #[.int .i64 0, .string ⟨#[]⟩, .int .i64 0, .int .i64 0, .int .i64 0, .slice none 0 0, .int .i64 0], .int .i64 7]) (by exact ret63 (fn := Tryz.f29) (p := 2) (u := 3) rfl rfl hrs.blk rfl) rfl ⟨.slice none 0 0, rfl, Kd.R_nil _ _ _ _ _, hrs.bel⟩
          · rw [if_neg hs] at hl
            have hs1 : s'.toList.isEmpty = false := by
              cases h : s'.toList with
              | nil => exact absurd h hs
              | cons => rfl
            have hs2 : (!s'.toList.isEmpty) = true := by rw [hs1]; rfl
            have hs3 : (s'.toList == (⟨#[]⟩ : ByteArray).toList) = false := beq_eq_false_iff_ne.mpr (fun e => hs (e.trans (ByteArray.toList_eq _)))
            have hs4 : (s'.toList != (⟨#[]⟩ : ByteArray).toList) = true := by unfold bne; rw [hs3]; rfl
            simp only [Option.some.injEq, Prod.mk.injEq] at hl
            obtain ⟨rfl, rfl, rfl, rfl, rfl, rfl, rfl, rfl⟩ := hl
            clear hs hrd hrd2
            go_wp2
            obtain ⟨hrs, -⟩ := HRS.out.set7 (.int .i64 0) (.string ⟨#[]⟩) (.int .i64 0) (.int .i64 0) (.int .i64 0) (.slice none 0 0) (.int .i64 0) HO.out
            clear c0 c1 c2 c3 c4 c5 c6 f0 f1 f2 f3 f4 f5 f6
            generalize (((((((W6.setCell ⟨rv, 0, none⟩ (.int .i64 0)).setCell ⟨rv, 1, none⟩ (.string ⟨#[]⟩)).setCell ⟨rv, 2, none⟩ (.int .i64 0)).setCell ⟨rv, 3, none⟩ (.int .i64 0)).setCell ⟨rv, 4, none⟩ (.int .i64 0)).setCell ⟨rv, 5, none⟩ (.slice none 0 0)).setCell ⟨rv, 6, none⟩ (.int .i64 0)) = W7 at hrs ⊢
            (try simp only [Exit.inBlock, Exit.then])
            refine bodyPost_ret (v := .tuple #[.agg #[.int .i64 0, .string ⟨#[]⟩, .int .i64 0, .int .i64 0, .int .i64 0, .slice none 0 0, .int .i64 0], .int .i64 7]) (by exact ret63 (fn := Tryz.f29) (p := 2) (u := 3) rfl rfl hrs.blk rfl) rfl ⟨.slice none 0 0, rfl, Kd.R_nil _ _ _ _ _, hrs.bel⟩
        · rw [if_neg he] at hl
          have heb : (e' != 0) = true := by simpa using he
          clear he
          simp only [Option.some.injEq, Prod.mk.injEq] at hl
          obtain ⟨rfl, rfl, rfl, rfl, rfl, rfl, rfl, rfl⟩ := hl
          go_upto_region 11 with (fail)
          obtain ⟨V, hV⟩ : ∃ V, V = (((((((W6.setCell ⟨rv, 0, none⟩ (.int .i64 0)).setCell ⟨rv, 1, none⟩ (.string ⟨#[]⟩)).setCell ⟨rv, 2, none⟩ (.int .i64 0)).setCell ⟨rv, 3, none⟩ (.int .i64 0)).setCell ⟨rv, 4, none⟩ (.int .i64 0)).setCell ⟨rv, 5, none⟩ (.slice none 0 0)).setCell ⟨rv, 6, none⟩ (.int .i64 0)) := ⟨_, rfl⟩
          have hx : V.heap[g]? = W6.heap[g]? := by rw [hV]; exact far7 W6 (fun e => HT.out.n1 e.symm) _ _ _ _ _ _ _
          have g1b : V.drew.cell? ⟨g, 1, none⟩ = some (.int .i64 e') := (World.cell?_of_block (a := ⟨g, 1, none⟩) (show V.drew.heap[g]? = W6.heap[g]? from hx)).trans g1
          rw [hV] at g1b
          clear hx hV
          go_region
          all_goals
            obtain ⟨hrs, -⟩ := HRS.out.set7 (.int .i64 0) (.string ⟨#[]⟩) (.int .i64 0) (.int .i64 0) (.int .i64 0) (.slice none 0 0) (.int .i64 0) HO.out
            clear g1b c0 c1 c2 c3 c4 c5 c6 f0 f1 f2 f3 f4 f5 f6 g0 g1
            generalize (((((((W6.setCell ⟨rv, 0, none⟩ (.int .i64 0)).setCell ⟨rv, 1, none⟩ (.string ⟨#[]⟩)).setCell ⟨rv, 2, none⟩ (.int .i64 0)).setCell ⟨rv, 3, none⟩ (.int .i64 0)).setCell ⟨rv, 4, none⟩ (.int .i64 0)).setCell ⟨rv, 5, none⟩ (.slice none 0 0)).setCell ⟨rv, 6, none⟩ (.int .i64 0)) = W7 at hrs ⊢
            go_wp2
            (try simp only [Exit.inBlock, Exit.then])
            refine bodyPost_ret (v := .tuple #[.agg #[.int .i64 0, .string ⟨#[]⟩, .int .i64 0, .int .i64 0, .int .i64 0, .slice none 0 0, .int .i64 0], .int .i64 e']) (by exact ret63 (fn := Tryz.f29) (p := 2) (u := 3) rfl rfl (show (W7.drew).heap[rv]? = _ from hrs.blk) rfl) rfl ⟨.slice none 0 0, rfl, Kd.R_nil _ _ _ _ _, below_drew hrs.bel⟩
end Go.Proofs.YtpepmmfhanaipaaGreatDoor.PJobBytes
