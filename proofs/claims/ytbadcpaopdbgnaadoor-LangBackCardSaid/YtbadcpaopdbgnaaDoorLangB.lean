/-
  Walks over package lang: which op a text is; which ops have a block.
-/
import Derived.Test.YtbadcpaopdbgnaaDoorLangA
import Derived.Laws.ResultCell
import Derived.Lib.ParseIntBTie
namespace Go.Proofs.YtbadcpaopdbgnaaDoor.Lang
open Go.RowKit Go.Shelf
set_option linter.unusedVariables false
set_option linter.unusedSimpArgs false

theorem blk_frozen {w : World} {g : Nat} {t : TypeId} {cs : Array Value} (h : w.heap[g]? = some (.cells cs t (0, 0))) (j : Nat) : w.frozen? ⟨g, j, none⟩ = false := by simp [World.frozen?, h]
theorem blk3 {w : World} {g : Nat} {t : TypeId} {a0 a1 a2 : Value} (h : w.heap[g]? = some (.cells #[a0, a1, a2] t (0, 0))) :
    w.cell? ⟨g, 0, none⟩ = some a0 ∧ w.cell? ⟨g, 1, none⟩ = some a1 ∧ w.cell? ⟨g, 2, none⟩ = some a2 ∧ w.frozen? ⟨g, 0, none⟩ = false ∧ w.frozen? ⟨g, 1, none⟩ = false ∧ w.frozen? ⟨g, 2, none⟩ = false :=
  ⟨cell_of_row w g 0 _ t _ h, cell_of_row w g 1 _ t _ h, cell_of_row w g 2 _ t _ h, blk_frozen h 0, blk_frozen h 1, blk_frozen h 2⟩
theorem blk4 {w : World} {g : Nat} {t : TypeId} {a0 a1 a2 a3 : Value} (h : w.heap[g]? = some (.cells #[a0, a1, a2, a3] t (0, 0))) :
    w.cell? ⟨g, 0, none⟩ = some a0 ∧ w.cell? ⟨g, 1, none⟩ = some a1 ∧ w.cell? ⟨g, 2, none⟩ = some a2 ∧ w.cell? ⟨g, 3, none⟩ = some a3 ∧ w.frozen? ⟨g, 0, none⟩ = false ∧ w.frozen? ⟨g, 1, none⟩ = false ∧ w.frozen? ⟨g, 2, none⟩ = false ∧ w.frozen? ⟨g, 3, none⟩ = false :=
  ⟨cell_of_row w g 0 _ t _ h, cell_of_row w g 1 _ t _ h, cell_of_row w g 2 _ t _ h, cell_of_row w g 3 _ t _ h, blk_frozen h 0, blk_frozen h 1, blk_frozen h 2, blk_frozen h 3⟩
/-- A new block, as it lies. -/
theorem new_blk (w : World) (o : Obj) {w' : World} (hb : Below (w.alloc o).heap.size (w.alloc o) w') : w'.heap[w.heap.size]? = some o := by
  rw [hb.block _ (by simp [World.alloc, -World.alloc_eq])]
  simp [World.alloc, -World.alloc_eq]
theorem below_new (w : World) (o : Obj) {w' : World} (hb : Below (w.alloc o).heap.size (w.alloc o) w') : Below w.heap.size w w' :=
  ((Below.refl _ w).alloc (Nat.le_refl _) o).trans (hb.mono (by simp [World.alloc, -World.alloc_eq]))

theorem blk_lt' {w : World} {g : Nat} {o : Obj} (h : w.heap[g]? = some o) : g < w.heap.size := by
  rcases Nat.lt_or_ge g w.heap.size with h' | h'
  · exact h'
  · simp [Array.getElem?_eq_none h'] at h
theorem set_at {w : World} {g j : Nat} {t : TypeId} {cs : Array Value} {fr : Nat × Nat} (h : w.heap[g]? = some (.cells cs t fr)) (x : Value) : (w.setCell ⟨g, j, none⟩ x).heap[g]? = some (.cells (cs.setIfInBounds j x) t fr) := by
  simp [World.setCell, Array.getElem?_modify, h]
theorem set3 {w : World} {g : Nat} {t : TypeId} {a0 a1 a2 : Value} {fr : Nat × Nat} (h : w.heap[g]? = some (.cells #[a0, a1, a2] t fr)) (x0 x1 x2 : Value) :
    (((w.setCell ⟨g, 0, none⟩ x0).setCell ⟨g, 1, none⟩ x1).setCell ⟨g, 2, none⟩ x2).heap[g]? = some (.cells #[x0, x1, x2] t fr) := set_at (set_at (set_at h x0) x1) x2
theorem ret62 {fn : Func} {p u : Tmp} (h : fn.results = #[.cell p 62, .tmp u]) {tmps : Array Value} {w : World} {g : Nat} {t : TypeId} {cs : Array Value} {fr : Nat × Nat} (hp : tmps.getD p undef = .pointer (some ⟨g, 0, none⟩)) (hg : w.heap[g]? = some (.cells cs t fr)) (hc : cs.size = 3) :
    (results fn tmps).run Tryd.prog w = .ok (.tuple #[.agg cs, tmps.getD u undef]) w := by
  have hi : (Tryd.prog.info? 62).map (·.size) = some 3 := by kernel_rfl
  rw [results_cell_tmp h, hp]
  have := run_loadVar_row (P := Tryd.prog) w g t 62 cs fr _ hg Tryd.underlying62 rfl (by rw [hc]; exact hi)
  simp only [asAddr, Sem.run_pure, Result.andThen_ok, this]

/-- The op that a text is. -/
def opOf (s : ByteArray) : Option (Int × Int) :=
  match kindOf s with
  | some i => some (2 + (i : Int), 0)
  | none => match Lib.parseIntB 64 s.data.toList with
    | .ok v => if Lib.itoa v = s.data.toList then some (1, v) else none
    | _ => none
def opR (p : Int × Int) (b : Bool) : Value := .tuple #[.agg #[.int .i64 p.1, .int .i64 p.2, .slice none 0 0], .bool b]

theorem bytes_inj {l : List UInt8} {s : ByteArray} (h : (⟨l.toArray⟩ : ByteArray) = s) : l = s.data.toList := by subst h; rfl

theorem pint_ok (s : ByteArray) (w : World) (hs : s.size ≤ 281474976710656) (v : Int) (h : Lib.parseIntB 64 s.data.toList = .ok v) : Calls Tryd.prog 44 #[.string s, .int .i64 10, .int .i64 64] w fun e w' => e = .returned (.tuple #[.int .i64 v, .nilIface]) ∧ Below w.heap.size w w' :=
  (Tryd.strconv_ParseInt_10_at64_ok s (by omega) v h w).mono fun e w' ⟨he, hw⟩ => ⟨he, by
    rcases hw with rfl | ⟨t, rfl⟩
    · exact Below.refl _ _
    · exact ⟨rfl, rfl, rfl, by rw [Lib.bytesWorld_size]; omega, fun i hi => Lib.bytesWorld_at_old w 5 t i hi⟩⟩
theorem pint_bad (s : ByteArray) (w : World) (hL : Laid w) (hs : s.size ≤ 281474976710656) (h : ∀ v, Lib.parseIntB 64 s.data.toList ≠ .ok v) : Calls Tryd.prog 44 #[.string s, .int .i64 10, .int .i64 64] w fun e w' => ∃ v q, e = .returned (.tuple #[.int .i64 v, .iface 108 q]) ∧ Below w.heap.size w w' := by
  cases hp : Lib.parseIntB 64 s.data.toList with
  | ok v => exact absurd hp (h v)
  | range =>
    obtain ⟨tp, p, hv⟩ := hL.er
    exact (Tryd.strconv_ParseInt_10_at64_range_var s hs hp tp p w hv).mono fun e w' ⟨N, he, _, _, hb⟩ => ⟨_, _, he, hb⟩
  | _ =>
    obtain ⟨tp, p, hv⟩ := hL.es
    exact (Tryd.strconv_ParseInt_10_at64_syntax_var s hs h (by rw [hp]; intro e; cases e) tp p w hv).mono fun e w' ⟨N, he, _, _, hb⟩ => ⟨_, _, he, hb⟩
theorem fint_calls (n : Int) (h0 : -9223372036854775808 ≤ n) (h1 : n ≤ 9223372036854775807) (w : World) (hL : Laid w) : Calls Tryd.prog 41 #[.int .i64 n, .int .i64 10] w fun e w' => e = .returned (.string ⟨(Lib.itoa n).toArray⟩) ∧ Below w.heap.size w w' :=
  (Tryd.strconv_FormatInt_10 n h0 h1 w hL.pw).mono fun e w' ⟨he, k, os, hw⟩ => ⟨he, by subst hw; exact Lib.below_grow _ w (Nat.le_refl _) k os⟩

set_option maxHeartbeats 4000000 in
theorem op_calls (s : ByteArray) (w : World) (hL : Laid w) (hs : s.size ≤ 281474976710656) : Calls Tryd.prog 34 #[.string s] w fun e w' => ∃ p, e = .returned (opR p (opOf s).isSome) ∧ (∀ q, opOf s = some q → q = p) ∧ Below w.heap.size w w' := by
  have HL := Aside.mk hL
  clear hL
  go_enter Tryd.func34, Tryd.ntmps34
  cases hk : kindOf s with
  | some i =>
    have HV := Aside.mk (kindV_some hk)
    have HO := Aside.mk (show opOf s = some (2 + (i : Int), 0) by simp [opOf, hk])
    clear hk
    go_wp2_with (first | (go_at_call 43; refine (kind_calls s _ (HL.out.below ((Below.refl _ w).alloc (Nat.le_refl _) _))).mono ?_; rw [HV.out]; rintro e w' ⟨rfl, hb⟩; have hblk := new_blk _ _ hb; have HB := Aside.mk (below_new _ _ hb); clear hb; obtain ⟨c0, c1, c2, f0, f1, f2⟩ := blk3 hblk; have HG := Aside.mk (Nat.le_refl w.heap.size); generalize hbq : w.heap.size = b at hblk c0 c1 c2 f0 f1 f2 ⊢; replace HG := Aside.mk (hbq ▸ HG.out : w.heap.size ≤ b); clear hbq; have HBK := Aside.mk hblk; clear hblk))
    (try simp only [Exit.inBlock, Exit.then])
    refine bodyPost_ret (v := opR (2 + (i : Int), 0) true) (by exact ret62 (fn := Tryd.f34) (p := 2) (u := 3) rfl rfl (set3 HBK.out _ _ _) rfl) rfl ⟨_, by rw [HO.out]; rfl, fun q hq => by rw [HO.out] at hq; exact (Option.some.inj hq).symm, ((HB.out.setCell HG.out _).setCell HG.out _).setCell HG.out _⟩
  | none =>
    have HV := Aside.mk (kindV_none hk)
    have HL1 : Aside (∀ o, Laid (w.alloc o)) := ⟨fun o => HL.out.below ((Below.refl _ w).alloc (Nat.le_refl _) o)⟩
    by_cases hp : ∃ v, Lib.parseIntB 64 s.data.toList = .ok v
    · obtain ⟨v, hp⟩ := hp
      have HP := Aside.mk hp
      have hv := Lib.parseIntB_bounds hp
      have hv0 : -9223372036854775808 ≤ v := by simpa using hv.1
      have hv1 : v ≤ 9223372036854775807 := by have := hv.2; simp at this; omega
      clear hv
      have HO := Aside.mk (show opOf s = if Lib.itoa v = s.data.toList then some (1, v) else none by simp [opOf, hk, hp])
      clear hk hp
      obtain ⟨x, hx⟩ : ∃ x : ByteArray, x = ⟨(Lib.itoa v).toArray⟩ := ⟨_, rfl⟩
      have HX := Aside.mk hx
      clear hx
      by_cases hxs : x = s
      · have hq := seq_true hxs
        have HXS := Aside.mk hxs
        clear hxs
        go_wp2_with (first
          | (go_at_call 43; refine (kind_calls s _ (HL.out.below ((Below.refl _ w).alloc (Nat.le_refl _) _))).mono ?_; rw [HV.out]; rintro e w' ⟨rfl, hb⟩; have hblk := new_blk _ _ hb; have HL2 := Aside.mk ((HL1.out _).below hb); have HB := Aside.mk (below_new _ _ hb); clear hb; have HG := Aside.mk (Nat.le_refl w.heap.size); generalize hbq : w.heap.size = b at hblk ⊢; replace HG := Aside.mk (hbq ▸ HG.out : w.heap.size ≤ b); clear hbq; have HBK := Aside.mk hblk; clear hblk)
          | (go_at_call 44; refine (pint_ok s _ hs v HP.out).mono ?_; rintro e w2 ⟨rfl, hb⟩; have HBK2 := Aside.mk ((hb.block b (blk_lt' HBK.out)).trans HBK.out); have HB2 := Aside.mk (HB.out.trans (hb.mono HB.out.size)); have HL3 := Aside.mk (HL2.out.below hb); clear hb)
          | (go_at_call 41; refine (fint_calls v hv0 hv1 _ HL3.out).mono ?_; rw [← HX.out]; rintro e w3 ⟨rfl, hb⟩; have hblk := (hb.block b (blk_lt' HBK2.out)).trans HBK2.out; have HB3 := Aside.mk (HB2.out.trans (hb.mono HB2.out.size)); obtain ⟨c0, c1, c2, f0, f1, f2⟩ := blk3 hblk; have HBK3 := Aside.mk hblk; clear hblk hb))
        (try simp only [Exit.inBlock, Exit.then])
        refine bodyPost_ret (v := opR (1, v) true) (by exact ret62 (fn := Tryd.f34) (p := 2) (u := 3) rfl rfl (set3 HBK3.out _ _ _) rfl) rfl ⟨_, by rw [HO.out, if_pos (bytes_inj (HX.out ▸ HXS.out))]; rfl, fun q hq => by rw [HO.out, if_pos (bytes_inj (HX.out ▸ HXS.out))] at hq; exact (Option.some.inj hq).symm, ((HB3.out.setCell HG.out _).setCell HG.out _).setCell HG.out _⟩
      · have hq := seq_false hxs
        have HXS := Aside.mk hxs
        clear hxs
        go_wp2_with (first
          | (go_at_call 43; refine (kind_calls s _ (HL.out.below ((Below.refl _ w).alloc (Nat.le_refl _) _))).mono ?_; rw [HV.out]; rintro e w' ⟨rfl, hb⟩; have hblk := new_blk _ _ hb; have HL2 := Aside.mk ((HL1.out _).below hb); have HB := Aside.mk (below_new _ _ hb); clear hb; have HG := Aside.mk (Nat.le_refl w.heap.size); generalize hbq : w.heap.size = b at hblk ⊢; replace HG := Aside.mk (hbq ▸ HG.out : w.heap.size ≤ b); clear hbq; have HBK := Aside.mk hblk; clear hblk)
          | (go_at_call 44; refine (pint_ok s _ hs v HP.out).mono ?_; rintro e w2 ⟨rfl, hb⟩; have HBK2 := Aside.mk ((hb.block b (blk_lt' HBK.out)).trans HBK.out); have HB2 := Aside.mk (HB.out.trans (hb.mono HB.out.size)); have HL3 := Aside.mk (HL2.out.below hb); clear hb)
          | (go_at_call 41; refine (fint_calls v hv0 hv1 _ HL3.out).mono ?_; rw [← HX.out]; rintro e w3 ⟨rfl, hb⟩; have hblk := (hb.block b (blk_lt' HBK2.out)).trans HBK2.out; have HB3 := Aside.mk (HB2.out.trans (hb.mono HB2.out.size)); obtain ⟨c0, c1, c2, f0, f1, f2⟩ := blk3 hblk; have HBK3 := Aside.mk hblk; clear hblk hb))
        (try simp only [Exit.inBlock, Exit.then])
        refine bodyPost_ret (v := opR (1, v) false) (by exact ret62 (fn := Tryd.f34) (p := 2) (u := 3) rfl rfl (set3 HBK3.out _ _ _) rfl) rfl ⟨_, by rw [HO.out, if_neg (fun e => HXS.out (by rw [HX.out, e]))]; rfl, fun q hq => by rw [HO.out, if_neg (fun e => HXS.out (by rw [HX.out, e]))] at hq; exact absurd hq (by simp), ((HB3.out.setCell HG.out _).setCell HG.out _).setCell HG.out _⟩
    · have HP := Aside.mk (fun v e => hp ⟨v, e⟩ : ∀ v, Lib.parseIntB 64 s.data.toList ≠ .ok v)
      have HO := Aside.mk (show opOf s = none by
        unfold opOf
        rw [hk]
        cases h : Lib.parseIntB 64 s.data.toList with
        | ok v => exact absurd ⟨v, h⟩ hp
        | range => rfl
        | _ => rfl)
      clear hk hp
      go_wp2_with (first
          | (go_at_call 43; refine (kind_calls s _ (HL.out.below ((Below.refl _ w).alloc (Nat.le_refl _) _))).mono ?_; rw [HV.out]; rintro e w' ⟨rfl, hb⟩; have hblk := new_blk _ _ hb; have HL2 := Aside.mk ((HL1.out _).below hb); have HB := Aside.mk (below_new _ _ hb); clear hb; have HG := Aside.mk (Nat.le_refl w.heap.size); generalize hbq : w.heap.size = b at hblk ⊢; replace HG := Aside.mk (hbq ▸ HG.out : w.heap.size ≤ b); clear hbq; have HBK := Aside.mk hblk; clear hblk)
          | (go_at_call 44; refine (pint_bad s _ HL2.out hs HP.out).mono ?_; rintro e w2 ⟨v, q, rfl, hb⟩; have hblk := (hb.block b (blk_lt' HBK.out)).trans HBK.out; have HB2 := Aside.mk (HB.out.trans (hb.mono HB.out.size)); obtain ⟨c0, c1, c2, f0, f1, f2⟩ := blk3 hblk; have HBK2 := Aside.mk hblk; clear hblk hb))
      (try simp only [Exit.inBlock, Exit.then])
      refine bodyPost_ret (v := opR (1, v) false) (by exact ret62 (fn := Tryd.f34) (p := 2) (u := 3) rfl rfl (set3 HBK2.out _ _ _) rfl) rfl ⟨_, by rw [HO.out]; rfl, fun q hq => by rw [HO.out] at hq; exact absurd hq (by simp), ((HB2.out.setCell HG.out _).setCell HG.out _).setCell HG.out _⟩
end Go.Proofs.YtbadcpaopdbgnaaDoor.Lang
