-- Put together by mergex.py out of this workplace's texts.
import Derived.Test.YtpepmmfhanaipaaGreatDoorJShelf
import Derived.Lib.SmallJoins
import Derived.Lib.AppendIntMem
import Derived.WalkKit
import Derived.BigQuiet
import Derived.Deep.LoopGhost
import Derived.Deep.QuietTactic
import Derived.Deep.DeepCutAuto
import Derived.Deep.CutBlock
import Derived.Deep.DeepMust
import Derived.StillTailTactics
import Derived.Below
import Derived.Laws.AppendOwn
import Derived.Maps.AppendAt
import Derived.OwnWalk
import Derived.KernelRfl
import Derived.Laws.ResultCell
import Derived.Lib.ParseIntBTie
section
namespace Go.Proofs.YtpepmmfhanaipaaGreatDoor.Lang
open Go.RowKit Go.Shelf
set_option linter.unusedVariables false
set_option linter.unusedSimpArgs false
structure Aside (p : Prop) : Prop where mk :: (out : p)
theorem seq_true {a b : ByteArray} (h : a = b) : (a.toList == b.toList) = true := by subst h; exact beq_self_eq_true _
theorem seq_false {a b : ByteArray} (h : a ≠ b) : (a.toList == b.toList) = false := by
  rw [beq_eq_false_iff_ne]
  intro e
  rw [ByteArray.toList_eq, ByteArray.toList_eq] at e
  apply h
  cases a with | mk x => cases b with | mk y => exact congrArg ByteArray.mk (by cases x; cases y; simpa using e)
structure Laid (w : World) : Prop where
  sp : Lib.TabIs Tryz.prog w "strings.asciiSpace" .u8 Lib.asciiSpaceTab
  pw : Lib.TabIs Tryz.prog w "internal/strconv.uint64pow10" .u64 Lib.pow10Tab
  es : ∃ tp p, w.var? Tryz.prog "strconv.ErrSyntax" = some #[.iface tp p]
  er : ∃ tp p, w.var? Tryz.prog "strconv.ErrRange" = some #[.iface tp p]
theorem Laid.below {w w' : World} (h : Laid w) (hb : Below w.heap.size w w') : Laid w' := by
  obtain ⟨h1, h2, ⟨t3, p3, h3⟩, ⟨t4, p4, h4⟩⟩ := h
  exact ⟨Joins.var_stays (g := 0) (by kernel_rfl) h1 hb (Nat.le_refl _), Joins.var_stays (g := 3) (by kernel_rfl) h2 hb (Nat.le_refl _),
    ⟨t3, p3, Joins.var_stays (g := 1) (by kernel_rfl) h3 hb (Nat.le_refl _)⟩, ⟨t4, p4, Joins.var_stays (g := 2) (by kernel_rfl) h4 hb (Nat.le_refl _)⟩⟩
def text : List UInt8 := [97, 32, 108, 101, 110, 32, 118, 32, 43, 32, 45, 32, 42, 32, 47, 32, 37, 32, 38, 32, 124, 32, 94, 32, 60, 60, 32, 62, 62, 32, 62, 62, 62, 32, 60, 32, 61, 32, 110, 111, 116, 32, 117, 56, 32, 117, 49, 54, 32, 117, 51, 50, 32, 115, 56, 32, 115, 49, 54, 32, 115, 51, 50, 32, 100, 117, 112, 32, 115, 119, 97, 112, 32, 112, 111, 112, 32, 105, 102, 32, 114, 101, 112, 32, 101, 109, 105, 116]
def wordsL : List (List UInt8) := [[97], [108, 101, 110], [118], [43], [45], [42], [47], [37], [38], [124], [94], [60, 60], [62, 62], [62, 62, 62], [60], [61], [110, 111, 116], [117, 56], [117, 49, 54], [117, 51, 50], [115, 56], [115, 49, 54], [115, 51, 50], [100, 117, 112], [115, 119, 97, 112], [112, 111, 112], [105, 102], [114, 101, 112], [101, 109, 105, 116]]
def wordsB : List ByteArray := wordsL.map fun l => ⟨l.toArray⟩
theorem fields_text : Lib.fields text = wordsL := by decide +kernel
theorem ascii_text : ∀ (j : Nat) (b : UInt8), text[j]? = some b → b.toNat < 128 := by
  intro j b h
  have : ∀ b ∈ text, b.toNat < 128 := by decide +kernel
  exact this b (List.mem_of_getElem? h)
theorem wordsB_length : wordsB.length = 29 := rfl
theorem words_calls (w : World) (hL : Laid w) : Calls Tryz.prog 250 #[] w fun e w' => e = .returned (.slice (some ⟨w.heap.size, 0, none⟩) 29 29) ∧ w' = w.alloc (.cells (wordsB.map Value.string).toArray 9) := by
  have hsp := hL.sp
  have hc := Tryz.strings_Fields ⟨text.toArray⟩ w (by decide) (fun j b h => ascii_text j b (by simpa using h)) hsp
  have e1 : Lib.fields (⟨text.toArray⟩ : ByteArray).data.toList = wordsL := by rw [← fields_text]
  rw [e1] at hc
  go_enter Tryz.func250, Tryz.ntmps250
  go_wp2_with (first | (go_at_call 255; refine hc.mono ?_; rintro e w' ⟨rfl, rfl⟩))
  go_ret
  exact ⟨rfl, rfl⟩
def kindOf (s : ByteArray) : Option Nat := wordsB.findIdx? (fun x => decide (x = s))
theorem kindOf_some {s : ByteArray} {j : Nat} (hj : j < 29) (h : wordsB[j]'hj = s) (hb : ∀ i, (hi : i < j) → wordsB[i]'(by rw [wordsB_length]; omega) ≠ s) : kindOf s = some j := by
  unfold kindOf
  rw [List.findIdx?_eq_some_iff_getElem]
  exact ⟨hj, by simpa using h, fun i hi => by simpa using hb i hi⟩
theorem kindOf_none {s : ByteArray} (hb : ∀ i, (hi : i < 29) → wordsB[i]'hi ≠ s) : kindOf s = none := by
  unfold kindOf
  rw [List.findIdx?_eq_none_iff]
  intro x hx
  obtain ⟨i, hi, rfl⟩ := List.getElem_of_mem hx
  simpa using hb i hi
def kindV (s : ByteArray) : Value := .tuple #[.int .i64 (match kindOf s with | some i => 2 + (i : Int) | none => 0), .bool (kindOf s).isSome]
theorem kindV_some {s : ByteArray} {j : Nat} (h : kindOf s = some j) : kindV s = .tuple #[.int .i64 (2 + (j : Int)), .bool true] := by simp [kindV, h]
theorem kindV_none {s : ByteArray} (h : kindOf s = none) : kindV s = .tuple #[.int .i64 0, .bool false] := by simp [kindV, h]
set_option maxHeartbeats 4000000 in
theorem kind_calls (s : ByteArray) (w : World) (hL : Laid w) : Calls Tryz.prog 238 #[.string s] w fun e w' => e = .returned (kindV s) ∧ Below w.heap.size w w' := by
  have HL := Aside.mk hL
  clear hL
  go_enter Tryz.func238, Tryz.ntmps238
  go_wp2_with (first | (go_at_call 250; refine (words_calls _ HL.out).mono ?_; rintro e w' ⟨rfl, rfl⟩))
  have hcell : ∀ j : Nat, (hj : j < 29) → (w.alloc (.cells (wordsB.map Value.string).toArray 9)).cell? ⟨w.heap.size, j, none⟩ = some (.string (wordsB[j]'hj)) := fun j hj => by
    have hj' : j < wordsB.length := hj
    simp [World.cell?, World.alloc, -World.alloc_eq, List.getElem?_map, hj']
    rfl
  have hbel : Below w.heap.size w (w.alloc (.cells (wordsB.map Value.string).toArray 9)) := (Below.refl _ w).alloc (Nat.le_refl _) _
  have HC := Aside.mk hcell
  clear hcell
  generalize w.alloc (.cells (wordsB.map Value.string).toArray 9) = W at HC hbel ⊢
  have HB := Aside.mk hbel
  clear hbel
  generalize w.heap.size = b at HC ⊢
  go_loopg [8] 30 (fun kq v8 w' => ∃ (j : Nat), v8 = .int .i64 (j : Int) ∧ w' = W ∧ Aside (j + kq = 30 ∧ j ≤ 29 ∧ ∀ i, (hi : i < 29) → i < j → wordsB[i]'hi ≠ s))
  case atStart => exact ⟨0, rfl, rfl, ⟨rfl, by omega, fun i _ h => absurd h (by omega)⟩⟩
  case round =>
    obtain ⟨j, rfl, rfl, HI⟩ := hrel
    cases gk with
    | zero => have := HI.out; omega
    | succ k1 =>
      by_cases h1 : (j : Int) < 29
      · have h1b := decide_eq_true h1
        have hj : j < 29 := by omega
        obtain ⟨x, hx⟩ : ∃ x, x = wordsB[j]'hj := ⟨_, rfl⟩
        have hc := HC.out j hj
        rw [← hx] at hc
        have HX := Aside.mk hx
        clear hx
        have p1 := eq_true (show 0 ≤ (j : Int) by omega)
        have q1 := eq_true h1
        by_cases h2 : x = s
        · have h2b := seq_true h2
          have HK := Aside.mk (kindV_some (kindOf_some hj (HX.out ▸ h2) (fun i hi => HI.out.2.2 i (by omega) hi)))
          clear h2
          go_wp2
          go_ret2
          exact ⟨by rw [HK.out]; rfl, HB.out⟩
        · have h2b := seq_false h2
          have hn : ∀ i, (hi : i < 29) → i < j + 1 → wordsB[i]'hi ≠ s := fun i hi h => by
            by_cases e : i = j
            · subst e
              rw [← HX.out]
              exact h2
            · exact HI.out.2.2 i hi (by omega)
          have HN := Aside.mk hn
          clear hn h2
          go_wp2
          go_roundg k1
          case measure => omega
          case rel => exact ⟨j + 1, by simp; done, rfl, ⟨by have := HI.out; omega, by omega, HN.out⟩⟩
      · have h1b := decide_eq_false h1
        have HK := Aside.mk (kindV_none (kindOf_none (fun i hi => HI.out.2.2 i hi (by omega))))
        go_wp2
        go_ret2
        exact ⟨by rw [HK.out]; rfl, HB.out⟩
end Go.Proofs.YtpepmmfhanaipaaGreatDoor.Lang
end
section
namespace Go.Proofs.YtpepmmfhanaipaaGreatDoor.Lang
open Go.RowKit Go.Shelf
set_option linter.unusedVariables false
set_option linter.unusedSimpArgs false
theorem blk_frozen {w : World} {g : Nat} {t : TypeId} {cs : Array Value} (h : w.heap[g]? = some (.cells cs t (0, 0))) (j : Nat) : w.frozen? ⟨g, j, none⟩ = false := by simp [World.frozen?, h]
theorem blk3 {w : World} {g : Nat} {t : TypeId} {a0 a1 a2 : Value} (h : w.heap[g]? = some (.cells #[a0, a1, a2] t (0, 0))) :
    w.cell? ⟨g, 0, none⟩ = some a0 ∧ w.cell? ⟨g, 1, none⟩ = some a1 ∧ w.cell? ⟨g, 2, none⟩ = some a2 ∧ w.frozen? ⟨g, 0, none⟩ = false ∧ w.frozen? ⟨g, 1, none⟩ = false ∧ w.frozen? ⟨g, 2, none⟩ = false :=
  ⟨cell_of_row w g 0 _ t _ h, cell_of_row w g 1 _ t _ h, cell_of_row w g 2 _ t _ h, blk_frozen h 0, blk_frozen h 1, blk_frozen h 2⟩
theorem blk4 {w : World} {g : Nat} {t : TypeId} {a0 a1 a2 a3 : Value} (h : w.heap[g]? = some (.cells #[a0, a1, a2, a3] t (0, 0))) :
    w.cell? ⟨g, 0, none⟩ = some a0 ∧ w.cell? ⟨g, 1, none⟩ = some a1 ∧ w.cell? ⟨g, 2, none⟩ = some a2 ∧ w.cell? ⟨g, 3, none⟩ = some a3 ∧ w.frozen? ⟨g, 0, none⟩ = false ∧ w.frozen? ⟨g, 1, none⟩ = false ∧ w.frozen? ⟨g, 2, none⟩ = false ∧ w.frozen? ⟨g, 3, none⟩ = false :=
  ⟨cell_of_row w g 0 _ t _ h, cell_of_row w g 1 _ t _ h, cell_of_row w g 2 _ t _ h, cell_of_row w g 3 _ t _ h, blk_frozen h 0, blk_frozen h 1, blk_frozen h 2, blk_frozen h 3⟩
theorem new_blk (w : World) (o : Obj) {w' : World} (hb : Below (w.alloc o).heap.size (w.alloc o) w') : w'.heap[w.heap.size]? = some o := by
  rw [hb.block _ (by simp [World.alloc, -World.alloc_eq])]
  simp [World.alloc, -World.alloc_eq]
theorem below_new (w : World) (o : Obj) {w' : World} (hb : Below (w.alloc o).heap.size (w.alloc o) w') : Below w.heap.size w w' :=
  ((Below.refl _ w).alloc (Nat.le_refl _) o).trans (hb.mono (by simp [World.alloc, -World.alloc_eq]))
theorem blk_lt' {w : World} {g : Nat} {o : Obj} (h : w.heap[g]? = some o) : g < w.heap.size := by
  rcases Nat.lt_or_ge g w.heap.size with h' | h'
  · exact h'
  · simp [Array.getElem?_eq_none h'] at h
theorem set_at {w : World} {g j : Nat} {t : TypeId} {cs : Array Value} {fr : Nat × Nat} (h : w.heap[g]? = some (.cells cs t fr)) (x : Value) : (w.setCell ⟨g, j, none⟩ x).heap[g]? = some (.cells (cs.setIfInBounds j x) t fr) := by
  simp [World.setCell, Array.getElem?_modify, h]
theorem set3 {w : World} {g : Nat} {t : TypeId} {a0 a1 a2 : Value} {fr : Nat × Nat} (h : w.heap[g]? = some (.cells #[a0, a1, a2] t fr)) (x0 x1 x2 : Value) :
    (((w.setCell ⟨g, 0, none⟩ x0).setCell ⟨g, 1, none⟩ x1).setCell ⟨g, 2, none⟩ x2).heap[g]? = some (.cells #[x0, x1, x2] t fr) := set_at (set_at (set_at h x0) x1) x2
theorem ret199 {fn : Func} {p u : Tmp} (h : fn.results = #[.cell p 199, .tmp u]) {tmps : Array Value} {w : World} {g : Nat} {t : TypeId} {cs : Array Value} {fr : Nat × Nat} (hp : tmps.getD p undef = .pointer (some ⟨g, 0, none⟩)) (hg : w.heap[g]? = some (.cells cs t fr)) (hc : cs.size = 3) :
    (results fn tmps).run Tryz.prog w = .ok (.tuple #[.agg cs, tmps.getD u undef]) w := by
  have hi : (Tryz.prog.info? 199).map (·.size) = some 3 := by kernel_rfl
  rw [results_cell_tmp h, hp]
  have := run_loadVar_row (P := Tryz.prog) w g t 199 cs fr _ hg Tryz.underlying199 rfl (by rw [hc]; exact hi)
  simp only [asAddr, Sem.run_pure, Result.andThen_ok, this]
def opOf (s : ByteArray) : Option (Int × Int) :=
  match kindOf s with
  | some i => some (2 + (i : Int), 0)
  | none => match Lib.parseIntB 64 s.data.toList with
    | .ok v => if Lib.itoa v = s.data.toList then some (1, v) else none
    | _ => none
def opR (p : Int × Int) (b : Bool) : Value := .tuple #[.agg #[.int .i64 p.1, .int .i64 p.2, .slice none 0 0], .bool b]
theorem bytes_inj {l : List UInt8} {s : ByteArray} (h : (⟨l.toArray⟩ : ByteArray) = s) : l = s.data.toList := by subst h; rfl
theorem pint_ok (s : ByteArray) (w : World) (hs : s.size ≤ 281474976710656) (v : Int) (h : Lib.parseIntB 64 s.data.toList = .ok v) : Calls Tryz.prog 239 #[.string s, .int .i64 10, .int .i64 64] w fun e w' => e = .returned (.tuple #[.int .i64 v, .nilIface]) ∧ Below w.heap.size w w' :=
  (Tryz.strconv_ParseInt_10_at64_ok s (by omega) v h w).mono fun e w' ⟨he, hw⟩ => ⟨he, by
    rcases hw with rfl | ⟨t, rfl⟩
    · exact Below.refl _ _
    · exact ⟨rfl, rfl, rfl, by rw [Lib.bytesWorld_size]; omega, fun i hi => Lib.bytesWorld_at_old w 5 t i hi⟩⟩
theorem pint_bad (s : ByteArray) (w : World) (hL : Laid w) (hs : s.size ≤ 281474976710656) (h : ∀ v, Lib.parseIntB 64 s.data.toList ≠ .ok v) : Calls Tryz.prog 239 #[.string s, .int .i64 10, .int .i64 64] w fun e w' => ∃ v q, e = .returned (.tuple #[.int .i64 v, .iface 324 q]) ∧ Below w.heap.size w w' := by
  cases hp : Lib.parseIntB 64 s.data.toList with
  | ok v => exact absurd hp (h v)
  | range =>
    obtain ⟨tp, p, hv⟩ := hL.er
    exact (Tryz.strconv_ParseInt_10_at64_range_var s hs hp tp p w hv).mono fun e w' ⟨N, he, _, _, hb⟩ => ⟨_, _, he, hb⟩
  | _ =>
    obtain ⟨tp, p, hv⟩ := hL.es
    exact (Tryz.strconv_ParseInt_10_at64_syntax_var s hs h (by rw [hp]; intro e; cases e) tp p w hv).mono fun e w' ⟨N, he, _, _, hb⟩ => ⟨_, _, he, hb⟩
theorem fint_calls (n : Int) (h0 : -9223372036854775808 ≤ n) (h1 : n ≤ 9223372036854775807) (w : World) (hL : Laid w) : Calls Tryz.prog 240 #[.int .i64 n, .int .i64 10] w fun e w' => e = .returned (.string ⟨(Lib.itoa n).toArray⟩) ∧ Below w.heap.size w w' :=
  (Tryz.strconv_FormatInt_10 n h0 h1 w hL.pw).mono fun e w' ⟨he, k, os, hw⟩ => ⟨he, by subst hw; exact Lib.below_grow _ w (Nat.le_refl _) k os⟩
set_option maxHeartbeats 4000000 in
theorem op_calls (s : ByteArray) (w : World) (hL : Laid w) (hs : s.size ≤ 281474976710656) : Calls Tryz.prog 211 #[.string s] w fun e w' => ∃ p, e = .returned (opR p (opOf s).isSome) ∧ (∀ q, opOf s = some q → q = p) ∧ Below w.heap.size w w' := by
  have HL := Aside.mk hL
  clear hL
  go_enter Tryz.func211, Tryz.ntmps211
  cases hk : kindOf s with
  | some i =>
    have HV := Aside.mk (kindV_some hk)
    have HO := Aside.mk (show opOf s = some (2 + (i : Int), 0) by simp [opOf, hk])
    clear hk
    go_wp2_with (first | (go_at_call 238; refine (kind_calls s _ (HL.out.below ((Below.refl _ w).alloc (Nat.le_refl _) _))).mono ?_; rw [HV.out]; rintro e w' ⟨rfl, hb⟩; have hblk := new_blk _ _ hb; have HB := Aside.mk (below_new _ _ hb); clear hb; obtain ⟨c0, c1, c2, f0, f1, f2⟩ := blk3 hblk; have HG := Aside.mk (Nat.le_refl w.heap.size); generalize hbq : w.heap.size = b at hblk c0 c1 c2 f0 f1 f2 ⊢; replace HG := Aside.mk (hbq ▸ HG.out : w.heap.size ≤ b); clear hbq; have HBK := Aside.mk hblk; clear hblk))
    (try simp only [Exit.inBlock, Exit.then])
    refine bodyPost_ret (v := opR (2 + (i : Int), 0) true) (by exact ret199 (fn := Tryz.f211) (p := 2) (u := 3) rfl rfl (set3 HBK.out _ _ _) rfl) rfl ⟨_, by rw [HO.out]; rfl, fun q hq => by rw [HO.out] at hq; exact (Option.some.inj hq).symm, ((HB.out.setCell HG.out _).setCell HG.out _).setCell HG.out _⟩
  | none =>
    have HV := Aside.mk (kindV_none hk)
    have HL1 : Aside (∀ o, Laid (w.alloc o)) := ⟨fun o => HL.out.below ((Below.refl _ w).alloc (Nat.le_refl _) o)⟩
    by_cases hp : ∃ v, Lib.parseIntB 64 s.data.toList = .ok v
    · obtain ⟨v, hp⟩ := hp
      have HP := Aside.mk hp
      have hv := Lib.parseIntB_bounds hp
      have hv0 : -9223372036854775808 ≤ v := by simpa using hv.1
      have hv1 : v ≤ 9223372036854775807 := by have := hv.2; simp at this; omega
      clear hv
      have HO := Aside.mk (show opOf s = if Lib.itoa v = s.data.toList then some (1, v) else none by simp [opOf, hk, hp])
      clear hk hp
      obtain ⟨x, hx⟩ : ∃ x : ByteArray, x = ⟨(Lib.itoa v).toArray⟩ := ⟨_, rfl⟩
      have HX := Aside.mk hx
      clear hx
      by_cases hxs : x = s
      · have hq := seq_true hxs
        have HXS := Aside.mk hxs
        clear hxs
        go_wp2_with (first
          | (go_at_call 238; refine (kind_calls s _ (HL.out.below ((Below.refl _ w).alloc (Nat.le_refl _) _))).mono ?_; rw [HV.out]; rintro e w' ⟨rfl, hb⟩; have hblk := new_blk _ _ hb; have HL2 := Aside.mk ((HL1.out _).below hb); have HB := Aside.mk (below_new _ _ hb); clear hb; have HG := Aside.mk (Nat.le_refl w.heap.size); generalize hbq : w.heap.size = b at hblk ⊢; replace HG := Aside.mk (hbq ▸ HG.out : w.heap.size ≤ b); clear hbq; have HBK := Aside.mk hblk; clear hblk)
          | (go_at_call 239; refine (pint_ok s _ hs v HP.out).mono ?_; rintro e w2 ⟨rfl, hb⟩; have HBK2 := Aside.mk ((hb.block b (blk_lt' HBK.out)).trans HBK.out); have HB2 := Aside.mk (HB.out.trans (hb.mono HB.out.size)); have HL3 := Aside.mk (HL2.out.below hb); clear hb)
          | (go_at_call 240; refine (fint_calls v hv0 hv1 _ HL3.out).mono ?_; rw [← HX.out]; rintro e w3 ⟨rfl, hb⟩; have hblk := (hb.block b (blk_lt' HBK2.out)).trans HBK2.out; have HB3 := Aside.mk (HB2.out.trans (hb.mono HB2.out.size)); obtain ⟨c0, c1, c2, f0, f1, f2⟩ := blk3 hblk; have HBK3 := Aside.mk hblk; clear hblk hb))
        (try simp only [Exit.inBlock, Exit.then])
        refine bodyPost_ret (v := opR (1, v) true) (by exact ret199 (fn := Tryz.f211) (p := 2) (u := 3) rfl rfl (set3 HBK3.out _ _ _) rfl) rfl ⟨_, by rw [HO.out, if_pos (bytes_inj (HX.out ▸ HXS.out))]; rfl, fun q hq => by rw [HO.out, if_pos (bytes_inj (HX.out ▸ HXS.out))] at hq; exact (Option.some.inj hq).symm, ((HB3.out.setCell HG.out _).setCell HG.out _).setCell HG.out _⟩
      · have hq := seq_false hxs
        have HXS := Aside.mk hxs
        clear hxs
        go_wp2_with (first
          | (go_at_call 238; refine (kind_calls s _ (HL.out.below ((Below.refl _ w).alloc (Nat.le_refl _) _))).mono ?_; rw [HV.out]; rintro e w' ⟨rfl, hb⟩; have hblk := new_blk _ _ hb; have HL2 := Aside.mk ((HL1.out _).below hb); have HB := Aside.mk (below_new _ _ hb); clear hb; have HG := Aside.mk (Nat.le_refl w.heap.size); generalize hbq : w.heap.size = b at hblk ⊢; replace HG := Aside.mk (hbq ▸ HG.out : w.heap.size ≤ b); clear hbq; have HBK := Aside.mk hblk; clear hblk)
          | (go_at_call 239; refine (pint_ok s _ hs v HP.out).mono ?_; rintro e w2 ⟨rfl, hb⟩; have HBK2 := Aside.mk ((hb.block b (blk_lt' HBK.out)).trans HBK.out); have HB2 := Aside.mk (HB.out.trans (hb.mono HB.out.size)); have HL3 := Aside.mk (HL2.out.below hb); clear hb)
          | (go_at_call 240; refine (fint_calls v hv0 hv1 _ HL3.out).mono ?_; rw [← HX.out]; rintro e w3 ⟨rfl, hb⟩; have hblk := (hb.block b (blk_lt' HBK2.out)).trans HBK2.out; have HB3 := Aside.mk (HB2.out.trans (hb.mono HB2.out.size)); obtain ⟨c0, c1, c2, f0, f1, f2⟩ := blk3 hblk; have HBK3 := Aside.mk hblk; clear hblk hb))
        (try simp only [Exit.inBlock, Exit.then])
        refine bodyPost_ret (v := opR (1, v) false) (by exact ret199 (fn := Tryz.f211) (p := 2) (u := 3) rfl rfl (set3 HBK3.out _ _ _) rfl) rfl ⟨_, by rw [HO.out, if_neg (fun e => HXS.out (by rw [HX.out, e]))]; rfl, fun q hq => by rw [HO.out, if_neg (fun e => HXS.out (by rw [HX.out, e]))] at hq; exact absurd hq (by simp), ((HB3.out.setCell HG.out _).setCell HG.out _).setCell HG.out _⟩
    · have HP := Aside.mk (fun v e => hp ⟨v, e⟩ : ∀ v, Lib.parseIntB 64 s.data.toList ≠ .ok v)
      have HO := Aside.mk (show opOf s = none by
        unfold opOf
        rw [hk]
        cases h : Lib.parseIntB 64 s.data.toList with
        | ok v => exact absurd ⟨v, h⟩ hp
        | range => rfl
        | _ => rfl)
      clear hk hp
      go_wp2_with (first
          | (go_at_call 238; refine (kind_calls s _ (HL.out.below ((Below.refl _ w).alloc (Nat.le_refl _) _))).mono ?_; rw [HV.out]; rintro e w' ⟨rfl, hb⟩; have hblk := new_blk _ _ hb; have HL2 := Aside.mk ((HL1.out _).below hb); have HB := Aside.mk (below_new _ _ hb); clear hb; have HG := Aside.mk (Nat.le_refl w.heap.size); generalize hbq : w.heap.size = b at hblk ⊢; replace HG := Aside.mk (hbq ▸ HG.out : w.heap.size ≤ b); clear hbq; have HBK := Aside.mk hblk; clear hblk)
          | (go_at_call 239; refine (pint_bad s _ HL2.out hs HP.out).mono ?_; rintro e w2 ⟨v, q, rfl, hb⟩; have hblk := (hb.block b (blk_lt' HBK.out)).trans HBK.out; have HB2 := Aside.mk (HB.out.trans (hb.mono HB.out.size)); obtain ⟨c0, c1, c2, f0, f1, f2⟩ := blk3 hblk; have HBK2 := Aside.mk hblk; clear hblk hb))
      (try simp only [Exit.inBlock, Exit.then])
      refine bodyPost_ret (v := opR (1, v) false) (by exact ret199 (fn := Tryz.f211) (p := 2) (u := 3) rfl rfl (set3 HBK2.out _ _ _) rfl) rfl ⟨_, by rw [HO.out]; rfl, fun q hq => by rw [HO.out] at hq; exact absurd hq (by simp), ((HB2.out.setCell HG.out _).setCell HG.out _).setCell HG.out _⟩
end Go.Proofs.YtpepmmfhanaipaaGreatDoor.Lang
end
section
namespace Go.Proofs.YtpepmmfhanaipaaGreatDoor.Lang
open Go.RowKit Go.Shelf
set_option linter.unusedVariables false
set_option linter.unusedSimpArgs false
inductive Ops where
  | nil
  | cons (k n : Int) (b r : Ops)
deriving DecidableEq, Repr
namespace Ops
def len : Ops → Nat
  | nil => 0
  | cons _ _ _ r => r.len + 1
def snoc : Ops → Int → Int → Ops → Ops
  | nil, k, n, b => cons k n b nil
  | cons k' n' b' r, k, n, b => cons k' n' b' (r.snoc k n b)
theorem len_snoc : ∀ (l : Ops) (k n : Int) (b : Ops), (l.snoc k n b).len = l.len + 1
  | nil, _, _, _ => rfl
  | cons _ _ _ r, k, n, b => congrArg (· + 1) (r.len_snoc k n b)
end Ops
def bl (v : Value) : List Nat := v.ownBlock.toList
theorem mem_bl {v : Value} {g : Nat} : g ∈ bl v ↔ v.ownBlock = some g := by unfold bl; simp
theorem own_frame {w w' : World} {B e size n : Nat} {v : Value} {xs : List Value} (h : w.ownsRow B e size v n xs) (hf : ∀ g ∈ bl v, w'.heap[g]? = w.heap[g]?) : w'.ownsRow B e size v n xs := by
  refine ⟨h.1, ?_⟩
  rcases h.2 with h0 | ⟨g, cap, cur, hv, hb, hg, rest⟩
  · exact .inl h0
  · exact .inr ⟨g, cap, cur, hv, hb, by rw [hf g (mem_bl.mpr (by rw [hv]; rfl))]; exact hg, rest⟩
theorem own_mem {w : World} {B e size n : Nat} {v : Value} {xs : List Value} (h : w.ownsRow B e size v n xs) : ∀ g ∈ bl v, B ≤ g ∧ g < w.heap.size :=
  fun g hg => h.lt g (mem_bl.mp hg)
def OpsAt (w : World) (B : Nat) : Ops → List Value → List Nat → Prop
  | .nil, xs, F => xs = [] ∧ F = []
  | .cons k n b r, xs, F => ∃ v ys xs' Fb Fr, xs = .int .i64 k :: .int .i64 n :: v :: xs' ∧ F = (bl v ++ Fb) ++ Fr ∧ w.ownsRow B 199 3 v b.len ys ∧ OpsAt w B b ys Fb ∧ OpsAt w B r xs' Fr
def SliceAt (w : World) (B : Nat) (l : Ops) (v : Value) (F : List Nat) : Prop :=
  ∃ xs F', F = bl v ++ F' ∧ w.ownsRow B 199 3 v l.len xs ∧ OpsAt w B l xs F'
theorem OpsAt.length {w : World} {B : Nat} : ∀ {l : Ops} {xs : List Value} {F : List Nat}, OpsAt w B l xs F → xs.length = l.len * 3
  | .nil, _, _, h => by rw [h.1]; rfl
  | .cons k n b r, _, _, h => by
    obtain ⟨v, ys, xs', Fb, Fr, rfl, -, -, -, hr⟩ := h
    have := OpsAt.length hr
    simp only [List.length_cons, Ops.len]
    omega
theorem OpsAt.frame {w w' : World} {B : Nat} : ∀ {l : Ops} {xs : List Value} {F : List Nat}, OpsAt w B l xs F → (∀ g ∈ F, w'.heap[g]? = w.heap[g]?) → OpsAt w' B l xs F
  | .nil, _, _, h, _ => h
  | .cons k n b r, _, _, h, hf => by
    obtain ⟨v, ys, xs', Fb, Fr, rfl, rfl, ho, hb, hr⟩ := h
    exact ⟨v, ys, xs', Fb, Fr, rfl, rfl, own_frame ho (fun g hg => hf g (by simp [hg])), hb.frame (fun g hg => hf g (by simp [hg])), hr.frame (fun g hg => hf g (by simp [hg]))⟩
theorem OpsAt.mem {w : World} {B : Nat} : ∀ {l : Ops} {xs : List Value} {F : List Nat}, OpsAt w B l xs F → ∀ g ∈ F, B ≤ g ∧ g < w.heap.size
  | .nil, _, _, h, g, hg => by rw [h.2] at hg; cases hg
  | .cons k n b r, _, _, h, g, hg => by
    obtain ⟨v, ys, xs', Fb, Fr, rfl, rfl, ho, hb, hr⟩ := h
    simp only [List.mem_append] at hg
    rcases hg with (hg | hg) | hg
    · exact own_mem ho g hg
    · exact hb.mem g hg
    · exact hr.mem g hg
theorem OpsAt.snoc {w : World} {B : Nat} {k n : Int} {b : Ops} {v : Value} {Fv : List Nat} (hv : SliceAt w B b v Fv) : ∀ {l : Ops} {xs : List Value} {F : List Nat}, OpsAt w B l xs F →
    OpsAt w B (l.snoc k n b) (xs ++ [.int .i64 k, .int .i64 n, v]) (F ++ Fv)
  | .nil, _, _, h => by
    obtain ⟨rfl, rfl⟩ := h
    obtain ⟨ys, F', rfl, ho, hb⟩ := hv
    exact ⟨v, ys, [], F', [], rfl, by simp, ho, hb, rfl, rfl⟩
  | .cons k' n' b' r, _, _, h => by
    obtain ⟨v', ys, xs', Fb, Fr, rfl, rfl, ho, hb, hr⟩ := h
    exact ⟨v', ys, _, Fb, _, rfl, by simp, ho, hb, hr.snoc hv⟩
theorem SliceAt.frame {w w' : World} {B : Nat} {l : Ops} {v : Value} {F : List Nat} (h : SliceAt w B l v F) (hf : ∀ g ∈ F, w'.heap[g]? = w.heap[g]?) : SliceAt w' B l v F := by
  obtain ⟨xs, F', rfl, ho, hb⟩ := h
  exact ⟨xs, F', rfl, own_frame ho (fun g hg => hf g (by simp [hg])), hb.frame (fun g hg => hf g (by simp [hg]))⟩
theorem SliceAt.mem {w : World} {B : Nat} {l : Ops} {v : Value} {F : List Nat} (h : SliceAt w B l v F) : ∀ g ∈ F, B ≤ g ∧ g < w.heap.size := by
  obtain ⟨xs, F', rfl, ho, hb⟩ := h
  intro g hg
  rcases List.mem_append.mp hg with hg | hg
  · exact own_mem ho g hg
  · exact hb.mem g hg
theorem SliceAt.nil (w : World) (B : Nat) : SliceAt w B .nil (.slice none 0 0) [] := ⟨[], [], rfl, World.ownsRow_nil w B 199 3, rfl, rfl⟩
def StackAt (w : World) (B : Nat) : List Ops → List Value → List Nat → Prop
  | [], vs, F => vs = [] ∧ F = []
  | l :: ls, vs, F => ∃ v vs' F1 F2, vs = v :: vs' ∧ F = F1 ++ F2 ∧ SliceAt w B l v F1 ∧ StackAt w B ls vs' F2
theorem StackAt.length {w : World} {B : Nat} : ∀ {ls : List Ops} {vs : List Value} {F : List Nat}, StackAt w B ls vs F → vs.length = ls.length
  | [], _, _, h => by rw [h.1]; rfl
  | l :: ls, _, _, h => by
    obtain ⟨v, vs', F1, F2, rfl, -, -, h2⟩ := h
    simp [h2.length]
theorem StackAt.frame {w w' : World} {B : Nat} : ∀ {ls : List Ops} {vs : List Value} {F : List Nat}, StackAt w B ls vs F → (∀ g ∈ F, w'.heap[g]? = w.heap[g]?) → StackAt w' B ls vs F
  | [], _, _, h, _ => h
  | l :: ls, _, _, h, hf => by
    obtain ⟨v, vs', F1, F2, rfl, rfl, h1, h2⟩ := h
    exact ⟨v, vs', F1, F2, rfl, rfl, h1.frame (fun g hg => hf g (by simp [hg])), h2.frame (fun g hg => hf g (by simp [hg]))⟩
theorem StackAt.mem {w : World} {B : Nat} : ∀ {ls : List Ops} {vs : List Value} {F : List Nat}, StackAt w B ls vs F → ∀ g ∈ F, B ≤ g ∧ g < w.heap.size
  | [], _, _, h, g, hg => by rw [h.2] at hg; cases hg
  | l :: ls, _, _, h, g, hg => by
    obtain ⟨v, vs', F1, F2, rfl, rfl, h1, h2⟩ := h
    rcases List.mem_append.mp hg with hg | hg
    · exact h1.mem g hg
    · exact h2.mem g hg
theorem StackAt.snoc {w : World} {B : Nat} {l : Ops} {v : Value} {Fv : List Nat} (hv : SliceAt w B l v Fv) : ∀ {ls : List Ops} {vs : List Value} {F : List Nat}, StackAt w B ls vs F → StackAt w B (ls ++ [l]) (vs ++ [v]) (F ++ Fv)
  | [], _, _, h => by
    obtain ⟨rfl, rfl⟩ := h
    exact ⟨v, [], Fv, [], rfl, by simp, hv, rfl, rfl⟩
  | l' :: ls, _, _, h => by
    obtain ⟨v', vs', F1, F2, rfl, rfl, h1, h2⟩ := h
    exact ⟨v', _, F1, _, rfl, by simp, h1, h2.snoc hv⟩
theorem StackAt.unsnoc {w : World} {B : Nat} {l : Ops} : ∀ {ls : List Ops} {vs : List Value} {F : List Nat}, StackAt w B (ls ++ [l]) vs F → ∃ v vs' F1 F2, vs = vs' ++ [v] ∧ F = F1 ++ F2 ∧ StackAt w B ls vs' F1 ∧ SliceAt w B l v F2
  | [], _, _, h => by
    obtain ⟨v, vs', F1, F2, rfl, rfl, h1, rfl, rfl⟩ := h
    exact ⟨v, [], [], F1, rfl, by simp, ⟨rfl, rfl⟩, h1⟩
  | l' :: ls, _, _, h => by
    obtain ⟨v', vs', F1, F2, rfl, rfl, h1, h2⟩ := h
    obtain ⟨v, vs'', G1, G2, rfl, rfl, h3, h4⟩ := h2.unsnoc
    exact ⟨v, v' :: vs'', F1 ++ G1, G2, rfl, by simp, ⟨v', vs'', F1, G1, rfl, rfl, h1, h3⟩, h4⟩
def headCells : List (Int × Int) → List Value
  | [] => []
  | p :: r => .int .i64 p.1 :: .int .i64 p.2 :: .slice none 0 0 :: headCells r
theorem headCells_length : ∀ l, (headCells l).length = l.length * 3
  | [] => rfl
  | p :: r => by simp only [headCells, List.length_cons, headCells_length r]; omega
theorem headCells_append : ∀ l m, headCells (l ++ m) = headCells l ++ headCells m
  | [], _ => rfl
  | p :: r, m => by simp [headCells, headCells_append r m]
structure PS (w : World) (B pa : Nat) (opens : List Ops) (heads : List (Int × Int)) (waits : Bool) (many : Nat) : Prop where mk ::
  out : ∃ vo vh vs F, w.heap[pa]? = some (.cells #[vo, vh, .bool waits, .int .i64 (many : Int)] 244 (0, 0)) ∧ B ≤ pa ∧ w.ownsRow B 102 1 vo opens.length vs ∧ w.ownsRow B 199 3 vh heads.length (headCells heads) ∧
    StackAt w B opens vs F ∧ (pa :: (bl vo ++ (bl vh ++ F))).Nodup
theorem last_calls (w : World) (pa g n c : Nat) (vh : Value) (waits : Value) (many : Value) (hp : w.heap[pa]? = some (.cells #[.slice (some ⟨g, 0, none⟩) (n + 1) c, vh, waits, many] 244 (0, 0))) (hn : n < 1000000) :
    Calls Tryz.prog 213 #[.pointer (some ⟨pa, 0, none⟩)] w fun e w' => e = .returned (.pointer (some ⟨g, n, none⟩)) ∧ ∃ q, w' = w.drewN q := by
  obtain ⟨c0, c1, c2, c3, f0, f1, f2, f3⟩ := blk4 hp
  clear hp
  have hw : IntKind.i64.wrap ((n : Int) + 1 - 1) = (n : Int) := by
    simp [IntKind.wrap, IntKind.signed, IntKind.bits]
    omega
  have p1 := eq_true (show 0 ≤ (n : Int) by omega)
  have q1 := eq_true (show (n : Int) < ((n + 1 : Nat) : Int) by omega)
  have q2 := eq_true (show (n : Int) < (n : Int) + 1 by omega)
  go_enter Tryz.func213, Tryz.ntmps213
  go_wp2
  go_quiet (fail)
  go_wp2
  go_ret
  exact ⟨rfl, _, rfl⟩
end Go.Proofs.YtpepmmfhanaipaaGreatDoor.Lang
end
section
namespace Go.Proofs.YtpepmmfhanaipaaGreatDoor.Lang
open Go.RowKit Go.Shelf
set_option linter.unusedVariables false
set_option linter.unusedSimpArgs false
theorem sc_false {s : ByteArray} {l : List UInt8} (h : s ≠ ⟨l.toArray⟩) : (s.toList == l) = false := by
  have := seq_false h
  rwa [ByteArray.toList_eq ⟨l.toArray⟩] at this
set_option maxRecDepth 100000 in
set_option maxHeartbeats 4000000 in
theorem bracket_bad1 (w : World) (pa : Nat) (vo vh many : Value) (waits : Bool) (s : ByteArray) (hp : w.heap[pa]? = some (.cells #[vo, vh, .bool waits, many] 244 (0, 0))) (hne : waits ≠ decide (s = ⟨#[91]⟩)) :
    Calls Tryz.prog 210 #[.pointer (some ⟨pa, 0, none⟩), .string s] w fun e w' => e = .returned (.int .i64 7) ∧ w' = w := by
  obtain ⟨c0, c1, c2, c3, f0, f1, f2, f3⟩ := blk4 hp
  clear hp
  by_cases hs : s = ⟨#[91]⟩
  · subst hs
    have hw : waits = false := by simpa using hne
    subst hw
    go_enter Tryz.func210, Tryz.ntmps210
    go_wp2
    go_ret
    exact ⟨rfl, rfl⟩
  · have hs1 := sc_false (l := [91]) hs
    have hw : waits = true := by simpa [hs] using hne
    subst hw
    clear hne hs
    go_enter Tryz.func210, Tryz.ntmps210
    go_wp2
    go_ret
    exact ⟨rfl, rfl⟩
set_option maxRecDepth 100000 in
set_option maxHeartbeats 4000000 in
theorem bracket_deep (w : World) (pa n c : Nat) (A : Option Addr) (vh many : Value) (hp : w.heap[pa]? = some (.cells #[.slice A n c, vh, .bool true, many] 244 (0, 0))) (hn : 6 < n) :
    Calls Tryz.prog 210 #[.pointer (some ⟨pa, 0, none⟩), .string ⟨#[91]⟩] w fun e w' => e = .returned (.int .i64 2) ∧ w' = w := by
  obtain ⟨c0, c1, c2, c3, f0, f1, f2, f3⟩ := blk4 hp
  clear hp
  have h1 : decide ((6 : Int) < (n : Int)) = true := decide_eq_true (by omega)
  have h2 : decide (6 < n) = true := decide_eq_true (by omega)
  go_enter Tryz.func210, Tryz.ntmps210
  go_wp2
  go_ret
  exact ⟨rfl, rfl⟩
set_option maxRecDepth 100000 in
set_option maxHeartbeats 4000000 in
theorem bracket_none (w : World) (pa c : Nat) (A : Option Addr) (vo many : Value) (s : ByteArray) (hs : s ≠ ⟨#[91]⟩) (hp : w.heap[pa]? = some (.cells #[vo, .slice A 0 c, .bool false, many] 244 (0, 0))) :
    Calls Tryz.prog 210 #[.pointer (some ⟨pa, 0, none⟩), .string s] w fun e w' => e = .returned (.int .i64 7) ∧ w' = w := by
  obtain ⟨c0, c1, c2, c3, f0, f1, f2, f3⟩ := blk4 hp
  clear hp
  have hs1 := sc_false (l := [91]) hs
  go_enter Tryz.func210, Tryz.ntmps210
  go_wp2
  go_ret
  exact ⟨rfl, rfl⟩
structure Upd (w w' : World) (S : List Nat) : Prop where
  os : w'.os = w.os
  tape : w'.tape = w.tape
  output : w'.output = w.output
  size : w.heap.size ≤ w'.heap.size
  block : ∀ g, g < w.heap.size → g ∉ S → w'.heap[g]? = w.heap[g]?
theorem Upd.refl (w : World) (S : List Nat) : Upd w w S := ⟨rfl, rfl, rfl, Nat.le_refl _, fun _ _ _ => rfl⟩
theorem Upd.trans {a b c : World} {S T : List Nat} (h : Upd a b S) (k : Upd b c T) (hT : ∀ g ∈ T, g < a.heap.size → g ∈ S) : Upd a c S :=
  ⟨k.os.trans h.os, k.tape.trans h.tape, k.output.trans h.output, Nat.le_trans h.size k.size, fun g hg hS => (k.block g (Nat.lt_of_lt_of_le hg h.size) (fun hgT => hS (hT g hgT hg))).trans (h.block g hg hS)⟩
theorem Upd.of_below {w w' : World} (h : Below w.heap.size w w') (S : List Nat) : Upd w w' S := ⟨h.os, h.tape, h.output, h.size, fun g hg _ => h.block g hg⟩
theorem Upd.of_grown {w w' : World} {row : Option Nat} {S : List Nat} (h : w.grownBy w' row) (hS : ∀ g, row = some g → g ∈ S) : Upd w w' S :=
  ⟨h.os, h.tape, h.output, h.size, fun g hg hgS => h.block g hg (fun e => hgS (hS g e.symm))⟩
theorem Upd.below {w w' : World} {S : List Nat} {B : Nat} (h : Upd w w' S) (hB : B ≤ w.heap.size) (hS : ∀ g ∈ S, B ≤ g) : Below B w w' :=
  ⟨h.os, h.tape, h.output, h.size, fun g hg => h.block g (Nat.lt_of_lt_of_le hg hB) (fun hgS => by have := hS g hgS; omega)⟩
theorem Upd.set {w : World} {p : Addr} {S : List Nat} (hS : p.block ∈ S) (v : Value) : Upd w (w.setCell p v) S :=
  ⟨rfl, rfl, rfl, by simp [World.setCell], fun g _ hgS => Below.heap_setCell w p v g (fun e => hgS (e ▸ hS))⟩
theorem Upd.alloc (w : World) (o : Obj) (S : List Nat) : Upd w (w.alloc o) S := Upd.of_below ((Below.refl _ w).alloc (Nat.le_refl _) o) S
theorem Upd.drewN (w : World) (q : Nat) (S : List Nat) : Upd w (w.drewN q) S := ⟨rfl, rfl, rfl, Nat.le_refl _, fun _ _ _ => rfl⟩
theorem own_slice {w : World} {B e size n : Nat} {v : Value} {xs : List Value} (h : w.ownsRow B e size v n xs) : ∃ A c, v = .slice A n c := by
  rcases h.2 with ⟨rfl, rfl⟩ | ⟨g, cap, cur, rfl, _⟩
  · exact ⟨_, _, rfl⟩
  · exact ⟨_, _, rfl⟩
theorem info102 : (Tryz.prog.info? 102).map (fun i => (i.zero, i.size, i.bytes)) = some (some (.slice none 0 0), 1, 24) := by kernel_rfl
theorem info199 : (Tryz.prog.info? 199).map (fun i => (i.zero, i.size, i.bytes)) = some (some (.agg #[.int .i64 0, .int .i64 0, .slice none 0 0]), 3, 40) := by kernel_rfl
set_option maxRecDepth 100000 in
set_option maxHeartbeats 4000000 in
theorem bracket_open (w : World) (B pa n : Nat) (vo vh many : Value) (vs : List Value) (hp : w.heap[pa]? = some (.cells #[vo, vh, .bool true, many] 244 (0, 0))) (hB : B ≤ w.heap.size) (hown : w.ownsRow B 102 1 vo n vs) (hn : n ≤ 6) (hpn : pa ∉ bl vo) :
    Calls Tryz.prog 210 #[.pointer (some ⟨pa, 0, none⟩), .string ⟨#[91]⟩] w fun e w' => e = .returned (.int .i64 0) ∧ ∃ vo', w'.heap[pa]? = some (.cells #[vo', vh, .bool false, many] 244 (0, 0)) ∧
      w'.ownsRow B 102 1 vo' (n + 1) (vs ++ [.slice none 0 0]) ∧ Upd w w' (pa :: bl vo) ∧ (vo'.ownBlock = vo.ownBlock ∨ ∃ g, vo'.ownBlock = some g ∧ w.heap.size ≤ g) := by
  have HP := Aside.mk hp
  obtain ⟨c0, c1, c2, c3, f0, f1, f2, f3⟩ := blk4 hp
  have hpl := blk_lt' hp
  clear hp
  obtain ⟨A, c, rfl⟩ := own_slice hown
  have HO := Aside.mk hown
  clear hown
  have h1 : decide ((6 : Int) < (n : Int)) = false := decide_eq_false (by omega)
  have h2 : decide (6 < n) = false := decide_eq_false (by omega)
  obtain ⟨i0, hi, hz0, hz1, hz2⟩ := info_parts info102
  have HI := Aside.mk hi
  clear hi
  go_enter Tryz.func210, Tryz.ntmps210
  go_wp2_with (first | (at_builtin; refine wpList_append_own_at _ rfl _ _ 242 rfl B 102 i0 (.slice none 0 0) 1 24 Tryz.underlying242 HI.out hz0 hz1 hz2 rfl (by decide) _ _ _ rfl (HO.out.alloc _) ⟨w.heap.size, 0, none⟩ 1 1 [.slice none 0 0] rfl rfl (cell_one_new _ _ _) (by simp [Value.oneCell']) (by unfold maxLen; omega) (by omega) (by simp; omega) ?_; go_must (intro v' w5 hown' hgrow hnil hloc; clear hnil; obtain ⟨A', c', rfl⟩ := own_slice hown'; have HN := Aside.mk hown'; have HG := Aside.mk (show (w.alloc (.cells #[.slice none 0 0] 102)).grownBy w5 (Value.slice A n c).ownBlock from hgrow); have HL := Aside.mk (show (Value.slice A' (n + 1) c').ownBlock = (Value.slice A n c).ownBlock ∨ (Value.slice A' (n + 1) c').ownBlock = some (w.alloc (.cells #[.slice none 0 0] 102)).heap.size from hloc); clear hown' hgrow hloc; have hp5 := (HG.out.block pa (by simp; omega) (fun e => hpn (mem_bl.mpr e.symm))).trans ((heap_alloc_old w _ hpl).trans HP.out); obtain ⟨c0, c1, c2, c3, f0, f1, f2, f3⟩ := blk4 hp5; have HP5 := Aside.mk hp5; clear hp5)))
  go_ret
  refine ⟨rfl, _, set_at (set_at HP5.out _) _, own_frame HN.out (fun g hg => ?_), ?_, ?_⟩
  · have hgp : g ≠ pa := fun e => by
      subst e
      rcases HL.out with h | h
      · exact hpn (mem_bl.mpr (h ▸ mem_bl.mp hg))
      · have := h ▸ mem_bl.mp hg
        simp at this
        omega
    rw [Below.heap_setCell _ _ _ _ hgp, Below.heap_setCell _ _ _ _ hgp]
  · have u1 := Upd.alloc w (.cells #[.slice none 0 0] 102) (pa :: bl (.slice A n c))
    have u2 := u1.trans (Upd.of_grown (S := pa :: bl (.slice A n c)) HG.out (fun g e => List.mem_cons_of_mem _ (mem_bl.mpr e))) (fun g hg _ => hg)
    exact (u2.trans (Upd.set (p := ⟨pa, 0, none⟩) (S := pa :: bl (.slice A n c)) (by simp) _) (fun g hg _ => hg)).trans (Upd.set (p := ⟨pa, 2, none⟩) (S := pa :: bl (.slice A n c)) (by simp) _) (fun g hg _ => hg)
  · rcases HL.out with h | h
    · exact .inl h
    · exact .inr ⟨_, h, by simp⟩
end Go.Proofs.YtpepmmfhanaipaaGreatDoor.Lang
end
