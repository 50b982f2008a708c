/-
  Walks: the page's own reading of blocks.
-/
import Derived.Test.YtbadcpaopdbgnaaDoorLangU
import Derived.Test.YtbadcpaopdbgnaaDoorLangE
namespace Go.Proofs.YtbadcpaopdbgnaaDoor.Lang
open Go.RowKit Go.Shelf
set_option linter.unusedVariables false
set_option linter.unusedSimpArgs false

/-- Words that lie in block gw. -/
def Wd (w : World) (gw : Nat) (v : Value) (ws : List ByteArray) : Prop :=
  ∃ A c, v = .slice A ws.length c ∧ ws.length ≤ 1000000 ∧ ws.length ≤ c ∧ (0 < ws.length → ∃ o, A = some ⟨gw, o, none⟩ ∧ ∀ i, (hi : i < ws.length) → w.cell? ⟨gw, o + i, none⟩ = some (.string (ws[i]'hi)))
theorem Wd.frame {w w' : World} {gw : Nat} {v : Value} {ws : List ByteArray} (h : Wd w gw v ws) (hf : w'.heap[gw]? = w.heap[gw]?) : Wd w' gw v ws := by
  obtain ⟨A, c, rfl, h1, h2, h3⟩ := h
  refine ⟨A, c, rfl, h1, h2, fun hp => ?_⟩
  obtain ⟨o, rfl, h4⟩ := h3 hp
  exact ⟨o, rfl, fun i hi => (World.cell?_of_block (a := ⟨gw, o + i, none⟩) hf).trans (h4 i hi)⟩
theorem Wd.tail {w : World} {gw o c : Nat} {x : ByteArray} {r : List ByteArray} (h : Wd w gw (.slice (some ⟨gw, o, none⟩) (r.length + 1) c) (x :: r)) : w.cell? ⟨gw, o, none⟩ = some (.string x) ∧ r.length + 1 ≤ c ∧ r.length ≤ 1000000 ∧
    (∀ A c', (A = some ⟨gw, o + 1, none⟩ ∨ r.length = 0) → r.length ≤ c' → Wd w gw (.slice A r.length c') r) := by
  obtain ⟨A, c', e, h1, h2, h3⟩ := h
  simp only [Value.slice.injEq] at e
  obtain ⟨rfl, -, rfl⟩ := e
  obtain ⟨o', e, h4⟩ := h3 (by simp)
  simp only [Option.some.injEq, Addr.mk.injEq, and_true, true_and] at e
  subst e
  refine ⟨by have := h4 0 (by simp); exact this, by simpa using h2, by simp at h1; omega, fun A c' hA hc => ⟨A, c', rfl, by simp at h1; omega, hc, fun hp => ?_⟩⟩
  rcases hA with rfl | hA
  · exact ⟨o + 1, rfl, fun i hi => by have := h4 (i + 1) (by simp; omega); simpa [Nat.add_assoc, Nat.add_comm 1 i] using this⟩
  · omega

theorem own_lower {w : World} {B B' e size n : Nat} {v : Value} {xs : List Value} (h : w.ownsRow B' e size v n xs) (hB : B ≤ B') : w.ownsRow B e size v n xs := by
  refine ⟨h.1, ?_⟩
  rcases h.2 with h0 | ⟨g, cap, cur, hv, hb, rest⟩
  · exact .inl h0
  · exact .inr ⟨g, cap, cur, hv, Nat.le_trans hB hb, rest⟩
theorem OpsAt.lower {w : World} {B B' : Nat} (hB : B ≤ B') : ∀ {l : Ops} {xs : List Value} {F : List Nat}, OpsAt w B' l xs F → OpsAt w B l xs F
  | .nil, _, _, h => h
  | .cons k n b r, _, _, h => by
    obtain ⟨v, ys, xs', Fb, Fr, rfl, rfl, ho, hb, hr⟩ := h
    exact ⟨v, ys, xs', Fb, Fr, rfl, rfl, own_lower ho hB, hb.lower hB, hr.lower hB⟩
theorem SliceAt.lower {w : World} {B B' : Nat} {l : Ops} {v : Value} {F : List Nat} (h : SliceAt w B' l v F) (hB : B ≤ B') : SliceAt w B l v F := by
  obtain ⟨xs, F', rfl, ho, hb⟩ := h
  exact ⟨xs, F', rfl, own_lower ho hB, hb.lower hB⟩

/-- 'append(row, op)' in a plain region. -/
theorem app_op {ops : Array Oper} {rest : List Oper} {o : Oper} {a : Act} {Q : Exit → Act → World → Prop} {W : World} (k n : Int) (vt : Value) (hgd : o.guard = none) (s x : Operand)
    (ho : o.op = .call { callee := .builtin .append, args := #[s, x], argTypes := #[23, 23] }) (v1 : Value) (B m : Nat) (xs : List Value) (hs : a.eval s = v1) (hx : a.eval x = .slice (some ⟨W.heap.size, 0, none⟩) 1 1)
    (hown : W.ownsRow B 62 3 v1 m xs) (hm : m ≤ 1000) (hB : B ≤ W.heap.size) (h1 : vt.oneCell' = true)
    (h : ∀ g cap w', w'.ownsRow B 62 3 (.slice (some ⟨g, 0, none⟩) (m + 1) cap) (m + 1) (xs ++ [.int .i64 k, .int .i64 n, vt]) → Upd W w' (bl v1) → (v1.ownBlock = some g ∨ W.heap.size ≤ g) → wpList Tryd.prog ops Q rest (a.put o.dst (.slice (some ⟨g, 0, none⟩) (m + 1) cap)) w') :
    wpList Tryd.prog ops Q (o :: rest) a (W.alloc (.cells #[.int .i64 k, .int .i64 n, vt] 62)) := by
  obtain ⟨i0, hi, hz0, hz1, hz2⟩ := info_parts info62
  refine wpList_append_lies (w := W.alloc (.cells #[.int .i64 k, .int .i64 n, vt] 62)) hgd s x 23 ho B 62 i0 (.agg #[.int .i64 0, .int .i64 0, .slice none 0 0]) 3 40 Tryd.underlying23 hi hz0 hz1 hz2 rfl (by decide) v1 m xs hs (hown.alloc _) ⟨W.heap.size, 0, none⟩ 1 1 [.int .i64 k, .int .i64 n, vt] hx rfl (World.news_of_block (cs := #[.int .i64 k, .int .i64 n, vt]) (t := 62) (fr := (0, 0)) (heap_alloc_new W _)) (by intro u hu; simp only [List.mem_cons, List.not_mem_nil, or_false] at hu; rcases hu with rfl | rfl | rfl; rfl; rfl; exact h1) (by omega) (by unfold maxLen; omega) (by omega) (by simp; omega) (W.heap.size + 1) (by simp) ?_
  intro g cap w' hown' hgrow hloc _
  refine h g cap w' hown' ⟨hgrow.os, hgrow.tape, hgrow.output, by have := hgrow.size; simp at this; omega, fun j hj hS => (hgrow.block j (by simp; omega) (fun e => hS (mem_bl.mpr e.symm))).trans (heap_alloc_old W _ hj)⟩ ?_
  rcases hloc with h | h
  · exact .inl h
  · exact .inr (by omega)
/-- An op with its block, put behind. -/
theorem push {W w' : World} {B g cap : Nat} {out b : Ops} {v vb : Value} {xs : List Value} {F' Fb : List Nat} {k n : Int} (hx : OpsAt W B out xs F') (hb : SliceAt W B b vb Fb) (hnd : (bl v ++ (F' ++ Fb)).Nodup) (hu : Upd W w' (bl v))
    (hown : w'.ownsRow B 62 3 (.slice (some ⟨g, 0, none⟩) (out.len + 1) cap) (out.len + 1) (xs ++ [.int .i64 k, .int .i64 n, vb])) (hloc : v.ownBlock = some g ∨ W.heap.size ≤ g) :
    ∃ F, SliceAt w' B (out.snoc k n b) (.slice (some ⟨g, 0, none⟩) (out.len + 1) cap) F ∧ F.Nodup := by
  rw [List.nodup_append] at hnd
  obtain ⟨n1, n2, n3⟩ := hnd
  have hfr : ∀ x, x ∈ F' ++ Fb → w'.heap[x]? = W.heap[x]? := fun x hx' => hu.block x (by
    rcases List.mem_append.mp hx' with h | h
    · exact (hx.mem x h).2
    · exact (hb.mem x h).2) (fun h => n3 x h x hx' rfl)
  refine ⟨g :: (F' ++ Fb), ⟨_, F' ++ Fb, rfl, by rw [Ops.len_snoc]; exact hown, OpsAt.snoc (hb.frame (fun x h => hfr x (List.mem_append.mpr (.inr h)))) (hx.frame (fun x h => hfr x (List.mem_append.mpr (.inl h))))⟩, ?_⟩
  rw [List.nodup_cons]
  refine ⟨fun h => ?_, n2⟩
  rcases hloc with h' | h'
  · exact n3 g (mem_bl.mpr h') g h rfl
  · have : g < W.heap.size := by
      rcases List.mem_append.mp h with h | h
      · exact (hx.mem g h).2
      · exact (hb.mem g h).2
    omega

theorem blk_fits : ∀ (f d many : Nat) (ws : List ByteArray) (out t : Ops) (r : List ByteArray) (m : Nat), many ≤ 128 → blk f d many ws out = .ok (t, r, m) → r.length ≤ ws.length ∧ many ≤ m ∧ m ≤ 128 := by
  intro f
  induction f with
  | zero => intro d many ws out t r m hm h; simp [blk] at h
  | succ f ih =>
    intro d many ws out t r m hm h
    cases ws with
    | nil =>
      rw [blk] at h
      split at h
      · cases h
      · cases h; exact ⟨Nat.le_refl _, Nat.le_refl _, hm⟩
    | cons x l =>
      rw [blk.eq_def] at h
      simp only at h
      split at h
      · split at h
        · cases h
        · cases h; exact ⟨by simp, Nat.le_refl _, hm⟩
      · split at h
        · cases h
        · split at h
          · cases h
          · split at h
            · split at h
              · cases h
              · split at h
                · cases h
                · split at h
                  · cases h
                  · split at h
                    · cases h
                    · rename_i x' hx
                      obtain ⟨t', r', m'⟩ := x'
                      have h1 := ih _ _ _ _ _ _ _ (by omega) hx
                      have h2 := ih _ _ _ _ _ _ _ h1.2.2 h
                      simp only [List.length_cons]
                      simp only at h2
                      omega
            · have h1 := ih _ _ _ _ _ _ _ (by omega) h
              simp only [List.length_cons]
              omega

/-- What a block's call leaves. -/
structure BP (w : World) (pp gw : Nat) (R : Except Int (Ops × List ByteArray × Nat)) (e : Ending) (w' : World) : Prop where mk ::
  upd : Upd w w' [pp]
  err : ∀ c, R = .error c → e = .returned (.tuple #[.slice none 0 0, .int .i64 c])
  ok : ∀ t r m, R = .ok (t, r, m) → ∃ v F vl, e = .returned (.tuple #[v, .int .i64 0]) ∧ SliceAt w' w.heap.size t v F ∧ F.Nodup ∧ w'.heap[pp]? = some (.cells #[vl, .int .i64 (m : Int)] 59 (0, 0)) ∧ Wd w' gw vl r
theorem BP.error {w w' : World} {pp gw : Nat} {R : Except Int (Ops × List ByteArray × Nat)} {c : Int} (h : R = .error c) (hu : Upd w w' [pp]) : BP w pp gw R (.returned (.tuple #[.slice none 0 0, .int .i64 c])) w' :=
  ⟨hu, fun c' h' => (by rw [h] at h'; cases h'; rfl), fun t r m h' => (by rw [h] at h'; cases h')⟩
theorem blk2 {w : World} {g : Nat} {t : TypeId} {a0 a1 : Value} (h : w.heap[g]? = some (.cells #[a0, a1] t (0, 0))) :
    w.cell? ⟨g, 0, none⟩ = some a0 ∧ w.cell? ⟨g, 1, none⟩ = some a1 ∧ w.frozen? ⟨g, 0, none⟩ = false ∧ w.frozen? ⟨g, 1, none⟩ = false :=
  ⟨cell_of_row w g 0 _ t _ h, cell_of_row w g 1 _ t _ h, blk_frozen h 0, blk_frozen h 1⟩
theorem refNumber_some {x : ByteArray} {v : Int} (h : refNumber x.data.toList = some v) : opOf x = some (1, v) := by
  rw [← refOp_eq]
  unfold refOp
  rw [h]
theorem refNumber_none {x : ByteArray} (h : refNumber x.data.toList = none) : opOf x = match kindOf x with | some i => some (2 + (i : Int), 0) | none => none := by
  have h2 := refOp_eq x
  unfold refOp at h2
  rw [h] at h2
  exact h2.symm
theorem BP.okay {w w' : World} {pp gw : Nat} {R : Except Int (Ops × List ByteArray × Nat)} {t : Ops} {r : List ByteArray} {m : Nat} {v vl : Value} {F : List Nat} (h : R = .ok (t, r, m)) (hu : Upd w w' [pp]) (hs : SliceAt w' w.heap.size t v F) (hn : F.Nodup) (hp : w'.heap[pp]? = some (.cells #[vl, .int .i64 (m : Int)] 59 (0, 0))) (hw : Wd w' gw vl r) : BP w pp gw R (.returned (.tuple #[v, .int .i64 0])) w' :=
  ⟨hu, fun c' h' => (by rw [h] at h'; cases h'), fun t' r' m' h' => (by rw [h] at h'; cases h'; exact ⟨v, F, vl, rfl, hs, hn, hp, hw⟩)⟩
theorem blk_rb (k d many : Nat) (r : List ByteArray) (out : Ops) : blk (k + 1) d many (rb :: r) out = if d = 0 then .error 7 else .ok (out, r, many) := by
  rw [blk.eq_def]
  simp only
  exact if_pos trivial
/-- What a word makes of a block. -/
def blkOp (k d many : Nat) (r : List ByteArray) (out : Ops) : Option (Int × Int) → Except Int (Ops × List ByteArray × Nat)
  | none => .error 7
  | some p =>
    if 128 < many + 1 then .error 2
    else if p.1 = 28 ∨ p.1 = 29 then
      match r with
      | [] => .error 6
      | b :: r2 => if b ≠ lb then .error 7 else if 6 < d + 1 then .error 2
        else match blk k (d + 1) (many + 1) r2 .nil with
          | .error c => .error c
          | .ok x => blk k d x.2.2 x.2.1 (out.snoc p.1 p.2 x.1)
    else blk k d (many + 1) r (out.snoc p.1 p.2 .nil)
theorem blk_word {k d many : Nat} {x : ByteArray} {r : List ByteArray} {out : Ops} (h : x ≠ rb) : blk (k + 1) d many (x :: r) out = blkOp k d many r out (opOf x) := by
  rw [blk.eq_def]
  simp only
  rw [if_neg h]
  rfl
theorem blkOp_limit {k d many : Nat} {r : List ByteArray} {out : Ops} {p : Int × Int} (h : 128 < many + 1) : blkOp k d many r out (some p) = .error 2 := if_pos h
theorem blkOp_cut {k d many : Nat} {out : Ops} {p : Int × Int} (h : ¬ 128 < many + 1) (hk : p.1 = 28 ∨ p.1 = 29) : blkOp k d many [] out (some p) = .error 6 := by
  simp only [blkOp]; rw [if_neg h, if_pos hk]
theorem blkOp_bad {k d many : Nat} {b : ByteArray} {r : List ByteArray} {out : Ops} {p : Int × Int} (h : ¬ 128 < many + 1) (hk : p.1 = 28 ∨ p.1 = 29) (hb : b ≠ lb) : blkOp k d many (b :: r) out (some p) = .error 7 := by
  simp only [blkOp]; rw [if_neg h, if_pos hk]; exact if_pos hb
theorem blkOp_deep {k d many : Nat} {r : List ByteArray} {out : Ops} {p : Int × Int} (h : ¬ 128 < many + 1) (hk : p.1 = 28 ∨ p.1 = 29) (hd : 6 < d + 1) : blkOp k d many (lb :: r) out (some p) = .error 2 := by
  simp only [blkOp]; rw [if_neg h, if_pos hk, if_neg (by simp), if_pos hd]
theorem blkOp_err {k d many : Nat} {r : List ByteArray} {out : Ops} {p : Int × Int} {c : Int} (h : ¬ 128 < many + 1) (hk : p.1 = 28 ∨ p.1 = 29) (hd : ¬ 6 < d + 1) (hx : blk k (d + 1) (many + 1) r .nil = .error c) : blkOp k d many (lb :: r) out (some p) = .error c := by
  simp only [blkOp]; rw [if_neg h, if_pos hk, if_neg (by simp), if_neg hd, hx]
theorem blkOp_in {k d many m : Nat} {r r3 : List ByteArray} {out t : Ops} {p : Int × Int} (h : ¬ 128 < many + 1) (hk : p.1 = 28 ∨ p.1 = 29) (hd : ¬ 6 < d + 1) (hx : blk k (d + 1) (many + 1) r .nil = .ok (t, r3, m)) : blkOp k d many (lb :: r) out (some p) = blk k d m r3 (out.snoc p.1 p.2 t) := by
  simp only [blkOp]; rw [if_neg h, if_pos hk, if_neg (by simp), if_neg hd, hx]
theorem blkOp_plain {k d many : Nat} {r : List ByteArray} {out : Ops} {p : Int × Int} (h : ¬ 128 < many + 1) (hk : ¬ (p.1 = 28 ∨ p.1 = 29)) : blkOp k d many r out (some p) = blk k d (many + 1) r (out.snoc p.1 p.2 .nil) := by
  simp only [blkOp]; rw [if_neg h, if_neg hk]
theorem blk_code : ∀ (f d many : Nat) (ws : List ByteArray) (out : Ops) (c : Int), blk f d many ws out = .error c → c = 7 ∨ c = 6 ∨ c = 2 := by
  intro f
  induction f with
  | zero => intro d many ws out c h; simp [blk] at h; exact .inl h.symm
  | succ f ih =>
    intro d many ws out c h
    cases ws with
    | nil =>
      rw [blk] at h
      split at h
      · cases h; exact .inr (.inl rfl)
      · cases h
    | cons x l =>
      rw [blk.eq_def] at h
      simp only at h
      split at h
      · split at h
        · cases h; exact .inl rfl
        · cases h
      · split at h
        · cases h; exact .inl rfl
        · split at h
          · cases h; exact .inr (.inr rfl)
          · split at h
            · split at h
              · cases h; exact .inr (.inl rfl)
              · split at h
                · cases h; exact .inl rfl
                · split at h
                  · cases h; exact .inr (.inr rfl)
                  · split at h
                    · rename_i hx
                      cases h
                      exact ih _ _ _ _ _ hx
                    · exact ih _ _ _ _ _ h
            · exact ih _ _ _ _ _ h
theorem blk_mem : ∀ (f d many : Nat) (ws : List ByteArray) (out t : Ops) (r : List ByteArray) (m : Nat), blk f d many ws out = .ok (t, r, m) → ∀ y ∈ r, y ∈ ws := by
  intro f
  induction f with
  | zero => intro d many ws out t r m h; simp [blk] at h
  | succ f ih =>
    intro d many ws out t r m h y hy
    cases ws with
    | nil =>
      rw [blk] at h
      split at h
      · cases h
      · cases h; exact hy
    | cons x l =>
      rw [blk.eq_def] at h
      simp only at h
      split at h
      · split at h
        · cases h
        · cases h; exact List.mem_cons_of_mem _ hy
      · split at h
        · cases h
        · split at h
          · cases h
          · split at h
            · split at h
              · cases h
              · split at h
                · cases h
                · split at h
                  · cases h
                  · split at h
                    · cases h
                    · rename_i x' hx
                      obtain ⟨t', r', m'⟩ := x'
                      exact List.mem_cons_of_mem _ (List.mem_cons_of_mem _ (ih _ _ _ _ _ _ _ hx y (ih _ _ _ _ _ _ _ h y hy)))
            · exact List.mem_cons_of_mem _ (ih _ _ _ _ _ _ _ h y hy)
theorem words_cell (w : World) (j : Nat) (hj : j < 29) : (w.alloc (.cells (wordsB.map Value.string).toArray 9)).cell? ⟨w.heap.size, j, none⟩ = some (.string (wordsB[j]'hj)) := by
  have hj' : j < wordsB.length := hj
  simp [World.cell?, World.alloc, -World.alloc_eq, List.getElem?_map, hj']
  rfl
theorem slice_form {w : World} {B : Nat} {l : Ops} {v : Value} {F : List Nat} (h : SliceAt w B l v F) : ∃ A c, v = .slice A l.len c := by
  obtain ⟨xs, F', rfl, ho, hb⟩ := h
  exact own_slice ho

set_option maxRecDepth 100000 in
set_option maxHeartbeats 16000000 in
theorem block_calls : ∀ (N f d many : Nat) (ws : List ByteArray) (w : World) (vl : Value) (pp gw : Nat), f ≤ N → ws.length < f → d ≤ 6 → many ≤ 128 → w.heap[pp]? = some (.cells #[vl, .int .i64 (many : Int)] 59 (0, 0)) → Wd w gw vl ws → gw ≠ pp → gw < w.heap.size → (∀ x ∈ ws, x.size ≤ 1000000) →
    Calls Tryd.prog 26 #[.pointer (some ⟨pp, 0, none⟩), .int .i64 (d : Int)] w (BP w pp gw (blk f d many ws .nil)) := by
  intro N
  induction N with
  | zero => intro f d many ws w vl pp gw h h2; omega
  | succ N ih =>
    intro f d many0 ws0 w vl0 pp gw hN hf0 hd hm0 hp0 hw0 hgp hgw hz0
    have HN0 := Aside.mk hN
    clear hN
    have IH := Aside.mk ih
    have HP0 := Aside.mk hp0
    have HW0 := Aside.mk hw0
    have HZ0 := Aside.mk hz0
    have HGP := Aside.mk hgp
    have HGWL := Aside.mk hgw
    have HPW := Aside.mk (blk_lt' hp0)
    have HF0 := Aside.mk hf0
    have HM0 := Aside.mk hm0
    obtain ⟨R, hR⟩ : ∃ R, R = blk f d many0 ws0 .nil := ⟨_, rfl⟩
    rw [← hR]
    have HR0 := Aside.mk hR.symm
    clear ih hf0 hp0 hw0 hgp hgw hz0 hm0 hR
    go_enter Tryd.func26, Tryd.ntmps26
    go_wp2
    go_loopg [6] f (fun kq v6 w' => ∃ (many : Nat) (ws : List ByteArray) (out : Ops) (F : List Nat) (vl : Value), Aside (ws.length < kq ∧ kq ≤ f) ∧ Aside (many ≤ 128 ∧ out.len ≤ many) ∧ Aside (blk kq d many ws out = R) ∧ Aside (Upd w w' [pp]) ∧ Aside (w'.heap[pp]? = some (.cells #[vl, .int .i64 (many : Int)] 59 (0, 0))) ∧
      Aside (SliceAt w' w.heap.size out v6 F) ∧ Aside F.Nodup ∧ Aside (Wd w' gw vl ws) ∧ Aside (∀ x ∈ ws, x.size ≤ 1000000))
    case atStart => exact ⟨many0, ws0, .nil, [], vl0, ⟨HF0.out, Nat.le_refl _⟩, ⟨HM0.out, Nat.zero_le _⟩, HR0, ⟨Upd.refl _ _⟩, HP0, ⟨SliceAt.nil _ _⟩, ⟨List.nodup_nil⟩, HW0, HZ0⟩
    case round =>
      obtain ⟨many, ws, out, F, vl, HI, HM, HR, HU, HP, HS, HN, HW, HZ⟩ := hrel
      cases gk with
      | zero => have := HI.out; omega
      | succ k1 =>
        obtain ⟨c0, c1, f0, f1⟩ := blk2 HP.out
        cases ws with
        | nil =>
          obtain ⟨A, c, rfl, -, -, -⟩ := HW.out
          simp only [List.length_nil] at c0
          by_cases h0 : 0 < d
          · have hd1 : decide ((0 : Int) < (d : Int)) = true := decide_eq_true (by omega)
            have hd2 : decide (0 < d) = true := decide_eq_true h0
            have HRE := Aside.mk (show R = .error 6 by rw [← HR.out, blk, if_pos h0])
            go_wp2
            go_ret2
            exact BP.error HRE.out HU.out
          · have hd1 : decide ((0 : Int) < (d : Int)) = false := decide_eq_false (by omega)
            have hd2 : decide (0 < d) = false := decide_eq_false h0
            have HRE := Aside.mk (show R = .ok (out, [], many) by rw [← HR.out, blk, if_neg h0])
            go_wp2
            go_ret2
            exact BP.okay HRE.out HU.out HS.out HN.out HP.out HW.out
        | cons x r =>
          obtain ⟨A, c, rfl, hl1, hl2, hl3⟩ := id HW.out
          obtain ⟨o, rfl, -⟩ := hl3 (by simp)
          simp only [List.length_cons] at c0 hl1 hl2
          obtain ⟨hx0, -, hl4, hwt⟩ := Wd.tail HW.out
          have HWT := Aside.mk hwt
          clear hl3 hwt
          go_upto_region 5 with (fail)
          obtain ⟨A2, hA2⟩ : ∃ A2, A2 = (if c = 1 then some (⟨gw, o, none⟩ : Addr) else some ⟨gw, o + 1, none⟩) := ⟨_, rfl⟩
          have hA3 : A2 = some ⟨gw, o + 1, none⟩ ∨ r.length = 0 := by
            by_cases h : c = 1
            · exact .inr (by omega)
            · exact .inl (by rw [hA2, if_neg h])
          rw [← hA2]
          have HW1' := (HWT.out A2 (c - 1) hA3 (by omega)).frame (Below.heap_setCell wr ⟨pp, 0, none⟩ (.slice A2 r.length (c - 1)) gw HGP.out)
          have HP1' := set_at (j := 0) HP.out (.slice A2 r.length (c - 1))
          have HU1' := HU.out.trans (Upd.set (p := ⟨pp, 0, none⟩) (S := [pp]) (by simp) (.slice A2 r.length (c - 1))) (fun g hg _ => hg)
          have HPF := Aside.mk (show pp ∉ F from fun h => by have := (HS.out.mem pp h).1; have := HPW.out; omega)
          have HS1' := HS.out.frame (w' := wr.setCell ⟨pp, 0, none⟩ (.slice A2 r.length (c - 1))) (fun g hg => Below.heap_setCell _ _ _ _ (fun e => HPF.out (by simpa [e] using hg)))
          clear hA2 hA3 c0 c1 f0 f1 hx0 hl1 hl2
          generalize wr.setCell ⟨pp, 0, none⟩ (.slice A2 r.length (c - 1)) = W1 at HW1' HP1' HU1' HS1' ⊢
          generalize c - 1 = c2 at HW1' HP1' ⊢
          have HW1 := Aside.mk HW1'
          have HP1 := Aside.mk (show W1.heap[pp]? = some (.cells #[.slice A2 r.length c2, .int .i64 (many : Int)] 59 (0, 0)) from HP1')
          have HU1 := Aside.mk HU1'
          have HS1 := Aside.mk HS1'
          have HXZ := Aside.mk (HZ.out x (by simp))
          have HZR := Aside.mk (fun y hy => HZ.out y (List.mem_cons_of_mem _ hy) : ∀ y ∈ r, y.size ≤ 1000000)
          clear HW1' HP1' HU1' HS1' HWT HW HP HU HS HZ
          by_cases hrb : x = rb
          · have hq1 : (x.toList == [93]) = true := by rw [hrb, ByteArray.toList_eq]; rfl
            have HRB := Aside.mk hrb
            clear hrb
            by_cases h0 : d = 0
            · have hd1 : ((d : Int) == 0) = true := by simp [h0]
              have HRE := Aside.mk (show R = .error 7 by rw [← HR.out, HRB.out, blk_rb, if_pos h0])
              clear h0
              go_wp2
              go_ret2
              exact BP.error HRE.out HU1.out
            · have hd1 : ((d : Int) == 0) = false := by simp [h0]
              have HRE := Aside.mk (show R = .ok (out, r, many) by rw [← HR.out, HRB.out, blk_rb, if_neg h0])
              clear h0
              go_wp2
              go_ret2
              exact BP.okay HRE.out HU1.out HS1.out HN.out HP1.out HW1.out
          · have hq1 := sc_false (l := [93]) hrb
            have HRN := Aside.mk (show R = blkOp k1 d many r out (opOf x) by rw [← HR.out, blk_word hrb])
            clear hrb
            have HG8 := Aside.mk (show W1.heap.size ∉ F from fun h => by have := (HS1.out.mem _ h).2; omega)
            cases hnum : refNumber x.data.toList with
            | some v =>
              have HOP := Aside.mk (refNumber_some hnum)
              have hnc := fun W => number_calls x W HXZ.out
              rw [hnum] at hnc
              have hnc2 : ∀ W, Calls Tryd.prog 37 #[.string x] W fun e w' => e = .returned (.tuple #[.int .i64 v, .bool true]) ∧ w' = W := fun W => hnc W
              have HNC := Aside.mk hnc2
              clear hnc hnc2 hnum
              go_upto_region 20 with (first | (go_at_call 37; refine (HNC.out _).mono ?_; rintro e w' ⟨rfl, rfl⟩))
              obtain ⟨g8, hg8⟩ : ∃ g8, g8 = W1.heap.size := ⟨_, rfl⟩
              have HP2' := (heap_alloc_old W1 (.cells #[.int .i64 1, .int .i64 v, .slice none 0 0] 62) (blk_lt' HP1.out)).trans HP1.out
              have H8' : (W1.alloc (.cells #[.int .i64 1, .int .i64 v, .slice none 0 0] 62)).heap[g8]? = some (.cells #[.int .i64 1, .int .i64 v, .slice none 0 0] 62 (0, 0)) := hg8 ▸ heap_alloc_new W1 _
              have HU2' := HU1.out.trans (Upd.alloc W1 (.cells #[.int .i64 1, .int .i64 v, .slice none 0 0] 62) [pp]) (fun g hg _ => hg)
              have HS2' := HS1.out.frame (w' := W1.alloc (.cells #[.int .i64 1, .int .i64 v, .slice none 0 0] 62)) (fun g hg => heap_alloc_old W1 _ (HS1.out.mem g hg).2)
              have HW2' := HW1.out.frame (w' := W1.alloc (.cells #[.int .i64 1, .int .i64 v, .slice none 0 0] 62)) (heap_alloc_old W1 _ (Nat.lt_of_lt_of_le HGWL.out HU1.out.size))
              have HGP8 := Aside.mk (show g8 ≠ pp by have := blk_lt' HP1.out; omega)
              have HGW8 := Aside.mk (show g8 ≠ gw by have := HGWL.out; have := HU1.out.size; omega)
              have HGL := Aside.mk (show w.heap.size ≤ g8 by have := HU1.out.size; omega)
              rw [← hg8] at HG8 ⊢
              clear hg8
              generalize W1.alloc (.cells #[.int .i64 1, .int .i64 v, .slice none 0 0] 62) = W2 at HP2' H8' HU2' HS2' HW2' ⊢
              obtain ⟨k, hk1q⟩ : ∃ k : Int, k = 1 := ⟨_, rfl⟩
              obtain ⟨n, hn1q⟩ : ∃ n : Int, n = v := ⟨_, rfl⟩
              rw [← hk1q, ← hn1q] at H8' HOP
              have HOP2 := HOP
              have HP2 := Aside.mk HP2'
              have H8 := Aside.mk H8'
              have HU2 := Aside.mk HU2'
              have HS2 := Aside.mk HS2'
              have HW2 := Aside.mk HW2'
              clear HP2' H8' HU2' HS2' HW2' hk1q hn1q HP1 HU1 HS1 HW1 HOP

              obtain ⟨c0, c1, f0, f1⟩ := blk2 HP2.out
              have hmm := HM.out.1
              by_cases hm : 128 < many + 1
              · have hm1 : decide ((128 : Int) < (many : Int) + 1) = true := decide_eq_true (by omega)
                have HRE := Aside.mk (show R = .error 2 by rw [HRN.out, HOP2.out, blkOp_limit hm])
                have HUE := Aside.mk (HU2.out.trans (Upd.set (p := ⟨pp, 1, none⟩) (S := [pp]) (by simp) (.int .i64 ((many : Int) + 1))) (fun g hg _ => hg))
                clear hm
                go_wp2
                go_ret2
                exact BP.error HRE.out HUE.out
              · have hm1 : decide ((128 : Int) < (many : Int) + 1) = false := decide_eq_false (by omega)
                have HMM := Aside.mk hm
                clear hm
                go_upto_region 23 with (fail)
                have HP3' : (W2.setCell ⟨pp, 1, none⟩ (.int .i64 ((many : Int) + 1))).heap[pp]? = some (.cells #[.slice A2 r.length c2, .int .i64 ((many + 1 : Nat) : Int)] 59 (0, 0)) := set_at (j := 1) HP2.out _
                have HU3' := HU2.out.trans (Upd.set (p := ⟨pp, 1, none⟩) (S := [pp]) (by simp) (.int .i64 ((many : Int) + 1))) (fun g hg _ => hg)
                have H83' := (Below.heap_setCell W2 ⟨pp, 1, none⟩ (.int .i64 ((many : Int) + 1)) g8 HGP8.out).trans H8.out
                have HS3' := HS2.out.frame (w' := W2.setCell ⟨pp, 1, none⟩ (.int .i64 ((many : Int) + 1))) (fun g hg => Below.heap_setCell _ _ _ _ (fun e => HPF.out (by simpa [e] using hg)))
                have HW3' := HW2.out.frame (w' := W2.setCell ⟨pp, 1, none⟩ (.int .i64 ((many : Int) + 1))) (Below.heap_setCell _ _ _ _ HGP.out)
                clear c0 c1 f0 f1 HP2 HU2 HS2 HW2 H8
                generalize W2.setCell ⟨pp, 1, none⟩ (.int .i64 ((many : Int) + 1)) = W3 at HP3' HU3' H83' HS3' HW3' ⊢
                have HP3 := Aside.mk HP3'
                have HU3 := Aside.mk HU3'
                have H83 := Aside.mk H83'
                have HS3 := Aside.mk HS3'
                have HW3 := Aside.mk HW3'
                clear HP3' HU3' H83' HS3' HW3'
                obtain ⟨x0, x1, x2, y0, y1, y2⟩ := blk3 H83.out
                by_cases hk : k = 28 ∨ k = 29
                · have hkt : (k == 28) = true ∨ ((k == 28) = false ∧ (k == 29) = true) := by
                    rcases hk with rfl | rfl
                    · exact .inl rfl
                    · exact .inr ⟨rfl, rfl⟩
                  have HKK := Aside.mk hk
                  clear hk
                  obtain ⟨c0, c1, f0, f1⟩ := blk2 HP3.out
                  rcases hkt with hk1 | ⟨hk1, hk2⟩
                  all_goals
                    cases r with
                    | nil =>
                      simp only [List.length_nil] at c0
                      have HRE := Aside.mk (show R = .error 6 by rw [HRN.out, HOP2.out, blkOp_cut HMM.out HKK.out])
                      go_wp2
                      go_ret2
                      exact BP.error HRE.out HU3.out
                    | cons b r2 =>
                      obtain ⟨A3, c3, e3, hl1, hl2, hl3⟩ := id HW3.out
                      simp only [Value.slice.injEq] at e3
                      obtain ⟨rfl, -, rfl⟩ := e3
                      obtain ⟨o2, rfl, -⟩ := hl3 (by simp)
                      simp only [List.length_cons] at c0 hl1 hl2
                      obtain ⟨hx0, -, hl4', hwt⟩ := Wd.tail HW3.out
                      have HWT := Aside.mk hwt
                      clear hl3 hwt
                      have hne0 : ((r2.length : Int) + 1 == 0) = false := by simp; omega
                      by_cases hb : b = lb
                      · have hq2 : (b.toList == [91]) = true := by rw [hb, ByteArray.toList_eq]; rfl
                        have HBL := Aside.mk hb
                        clear hb
                        by_cases hd6 : 6 < d + 1
                        · have hd7 : decide ((6 : Int) < (d : Int) + 1) = true := decide_eq_true (by omega)
                          have HRE := Aside.mk (show R = .error 2 by rw [HRN.out, HOP2.out, HBL.out, blkOp_deep HMM.out HKK.out hd6])
                          clear hd6
                          go_wp2
                          all_goals
                            go_ret2
                            exact BP.error HRE.out (HU3.out.trans (Upd.set (by simp) _) (fun g hg _ => hg))
                        · have hd7 : decide ((6 : Int) < (d : Int) + 1) = false := decide_eq_false (by omega)
                          have HD6 := Aside.mk hd6
                          clear hd6
                          go_upto_region 31 with (fail)
                          obtain ⟨A4, hA4⟩ : ∃ A4, A4 = (if c2 = 1 then some (⟨gw, o2, none⟩ : Addr) else some ⟨gw, o2 + 1, none⟩) := ⟨_, rfl⟩
                          have hA5 : A4 = some ⟨gw, o2 + 1, none⟩ ∨ r2.length = 0 := by
                            by_cases h : c2 = 1
                            · exact .inr (by omega)
                            · exact .inl (by rw [hA4, if_neg h])
                          rw [← hA4]
                          have HW4' := (HWT.out A4 (c2 - 1) hA5 (by omega)).frame (Below.heap_setCell W3 ⟨pp, 0, none⟩ (.slice A4 r2.length (c2 - 1)) gw HGP.out)
                          have HP4' := set_at (j := 0) HP3.out (.slice A4 r2.length (c2 - 1))
                          have HU4' := HU3.out.trans (Upd.set (p := ⟨pp, 0, none⟩) (S := [pp]) (by simp) (.slice A4 r2.length (c2 - 1))) (fun g hg _ => hg)
                          have H84' := (Below.heap_setCell W3 ⟨pp, 0, none⟩ (.slice A4 r2.length (c2 - 1)) g8 HGP8.out).trans H83.out
                          have HS4' := HS3.out.frame (w' := W3.setCell ⟨pp, 0, none⟩ (.slice A4 r2.length (c2 - 1))) (fun g hg => Below.heap_setCell _ _ _ _ (fun e => HPF.out (by simpa [e] using hg)))
                          clear hA4 hA5 c0 c1 f0 f1 hx0 hl1 hl2 x0 x1 x2 y0 y1 y2 HP3 HU3 H83 HS3 HW3 HWT
                          generalize W3.setCell ⟨pp, 0, none⟩ (.slice A4 r2.length (c2 - 1)) = W4 at HW4' HP4' HU4' H84' HS4' ⊢
                          generalize c2 - 1 = c4 at HW4' HP4' ⊢
                          have HP4 := Aside.mk (show W4.heap[pp]? = some (.cells #[.slice A4 r2.length c4, .int .i64 ((many + 1 : Nat) : Int)] 59 (0, 0)) from HP4')
                          have HW4 := Aside.mk HW4'
                          have HU4 := Aside.mk HU4'
                          have H84 := Aside.mk H84'
                          have HS4 := Aside.mk HS4'
                          clear HW4' HP4' HU4' H84' HS4'
                          have HZS := Aside.mk (fun y hy => HZR.out y (List.mem_cons_of_mem _ hy) : ∀ y ∈ r2, y.size ≤ 1000000)
                          have hcall := IH.out k1 (d + 1) (many + 1) r2 W4 _ pp gw (by have := HI.out; have := HN0.out; omega) (by have := HI.out; simp only [List.length_cons] at this; omega) (by have := HD6.out; omega) (by have := HMM.out; omega) HP4.out HW4.out HGP.out (Nat.lt_of_lt_of_le HGWL.out HU4.out.size) HZS.out
                          have HC := Aside.mk (show Calls Tryd.prog 26 #[.pointer (some ⟨pp, 0, none⟩), .int .i64 ((d : Int) + 1)] W4 _ from hcall)
                          clear hcall
                          cases hx : blk k1 (d + 1) (many + 1) r2 .nil with
                          | error c =>
                            have HX := Aside.mk hx
                            have hc0 : (c != 0) = true := by rcases blk_code _ _ _ _ _ _ hx with rfl | rfl | rfl <;> rfl
                            clear hx
                            have HRE := Aside.mk (show R = .error c by rw [HRN.out, HOP2.out, HBL.out, blkOp_err HMM.out HKK.out HD6.out HX.out])
                            go_wp2_with (first | (go_at_call 26; refine HC.out.mono ?_; rintro e w5 ⟨hu, he, -⟩; obtain rfl := he c HX.out; have HU5 := Aside.mk hu; clear hu he))
                            go_ret2
                            exact BP.error HRE.out (HU4.out.trans HU5.out (fun g hg _ => hg))
                          | ok z =>
                            obtain ⟨t, r3, m3⟩ := z
                            have HX := Aside.mk hx
                            have HFT := Aside.mk (blk_fits _ _ _ _ _ _ _ _ (by have := HMM.out; omega) hx)
                            have HMEM := Aside.mk (blk_mem _ _ _ _ _ _ _ _ hx)
                            clear hx
                            go_upto_region 35 with (first | (go_at_call 26; refine HC.out.mono ?_; rintro e w5 ⟨hu, -, he⟩; obtain ⟨v5, F5, vl5, rfl, hs5, hn5, hp5, hw5⟩ := he t r3 m3 HX.out; obtain ⟨A5, c5, rfl⟩ := slice_form hs5; have h85 := (hu.block g8 (blk_lt' H84.out) (by simpa using HGP8.out)).trans H84.out; obtain ⟨x0, x1, x2, y0, y1, y2⟩ := blk3 h85; have H85 := Aside.mk h85; have HU5 := Aside.mk hu; have HSS5 := Aside.mk hs5; have HN5 := Aside.mk hn5; have HP5 := Aside.mk hp5; have HW5 := Aside.mk hw5; clear hu he hs5 hn5 hp5 hw5 h85))
                            have H86' := set_at (j := 2) H85.out (.slice A5 t.len c5)
                            have HP6' := (Below.heap_setCell w5 ⟨g8, 2, none⟩ (.slice A5 t.len c5) pp (Ne.symm HGP8.out)).trans HP5.out
                            have HW6' := HW5.out.frame (Below.heap_setCell w5 ⟨g8, 2, none⟩ (.slice A5 t.len c5) gw (Ne.symm HGW8.out))
                            have HS6' := (HS4.out.frame (fun g hg => HU5.out.block g (HS4.out.mem g hg).2 (fun e => HPF.out (by simp at e; rw [← e]; exact hg)))).frame (w' := w5.setCell ⟨g8, 2, none⟩ (.slice A5 t.len c5)) (fun g hg => Below.heap_setCell _ _ _ _ (fun e => HG8.out (by simp at e; rw [← e]; exact hg)))
                            have HS56' := HSS5.out.frame (w' := w5.setCell ⟨g8, 2, none⟩ (.slice A5 t.len c5)) (fun g hg => Below.heap_setCell _ _ _ _ (fun e => by have h1 := (HSS5.out.mem g hg).1; have h2 := blk_lt' H84.out; simp at e; omega))
                            have HU6' := (HU4.out.trans HU5.out (fun g hg _ => hg)).trans (Upd.set (p := ⟨g8, 2, none⟩) (S := [g8]) (by simp) (.slice A5 t.len c5)) (fun g hg hlt => by have := HGL.out; simp at hg; omega)
                            have hBW4 := HU4.out.size
                            clear x0 x1 x2 y0 y1 y2
                            generalize w5.setCell ⟨g8, 2, none⟩ (.slice A5 t.len c5) = W6 at H86' HP6' HW6' HS6' HS56' HU6' ⊢
                            have HP6 := Aside.mk HP6'
                            have HW6 := Aside.mk HW6'
                            have HS6 := Aside.mk HS6'
                            have HS56 := Aside.mk HS56'
                            have HU6 := Aside.mk HU6'
                            obtain ⟨x0, x1, x2, y0, y1, y2⟩ := blk3 (show W6.heap[g8]? = some (.cells #[.int .i64 k, .int .i64 n, .slice A5 t.len c5] 62 (0, 0)) from H86')
                            clear H86' HP6' HW6' HS6' HS56' HU6'
                            obtain ⟨xs, F', hFe, ho, hxs⟩ := HS6.out
                            obtain ⟨Ao, co, rfl⟩ := own_slice ho
                            have HOW := Aside.mk ho
                            have HOX := Aside.mk hxs
                            have HFE := Aside.mk hFe
                            have hpn : pp ∉ bl (Value.slice Ao out.len co) := fun h => by have := (own_mem ho pp h).1; have := HPW.out; omega
                            have hgn : gw ∉ bl (Value.slice Ao out.len co) := fun h => by have := (own_mem ho gw h).1; have := HGWL.out; omega
                            have HPN := Aside.mk hpn
                            have HGN := Aside.mk hgn
                            have hnd : (bl (Value.slice Ao out.len co) ++ (F' ++ F5)).Nodup := by
                              rw [← List.append_assoc, ← hFe]
                              rw [List.nodup_append]
                              exact ⟨HN.out, HN5.out, fun a ha b hb e => by subst e; have h1 := (HS4.out.mem a ha).2; have h2 := (HS56.out.mem a hb).1; omega⟩
                            have HND := Aside.mk hnd
                            clear hFe ho hxs hpn hgn hnd
                            have hm1000 : out.len ≤ 1000 := by have := HM.out; omega
                            have hBW := HU6.out.size
                            go_wp2_with (first | (at_builtin; go_must (refine app_op k n (.slice A5 t.len c5) rfl _ _ rfl (.slice Ao out.len co) w.heap.size out.len xs rfl rfl HOW.out hm1000 hBW rfl ?_; intro g cap w7 hown hu hloc; have HSN := Aside.mk (push (b := t) HOX.out (HS56.out.lower hBW4) HND.out hu hown hloc); have HP7 := Aside.mk ((hu.block pp (blk_lt' HP6.out) HPN.out).trans HP6.out); have HW7 := Aside.mk (HW6.out.frame (hu.block gw (Nat.lt_of_lt_of_le HGWL.out hBW) HGN.out)); have HU7 := Aside.mk (HU6.out.trans hu (fun g hg hlt => by have := (own_mem HOW.out g hg).1; omega)); clear hown hu hloc)))
                            obtain ⟨F7, hs7, hn7⟩ := HSN.out
                            have HS7 := Aside.mk hs7
                            have HN7 := Aside.mk hn7
                            clear hs7 hn7
                            go_roundg k1
                            case measure => omega
                            case rel => exact ⟨m3, r3, out.snoc k n t, F7, _, ⟨by have := HI.out; have := HFT.out.1; simp only [List.length_cons] at *; omega, by have := HI.out; omega⟩, ⟨HFT.out.2.2, by rw [Ops.len_snoc]; have := HM.out; have := HFT.out.2.1; omega⟩, ⟨by rw [HRN.out, HOP2.out, HBL.out, blkOp_in HMM.out HKK.out HD6.out HX.out]⟩, HU7, HP7, HS7, HN7, HW7, ⟨fun y hy => HZS.out y (HMEM.out y hy)⟩⟩

                      · have hq2 := sc_false (l := [91]) hb
                        have HRE := Aside.mk (show R = .error 7 by rw [HRN.out, HOP2.out, blkOp_bad HMM.out HKK.out hb])
                        clear hb
                        go_wp2
                        go_ret2
                        exact BP.error HRE.out HU3.out
                · have hk1 : (k == 28) = false := by simp; omega
                  have hk2 : (k == 29) = false := by simp; omega
                  have HKN := Aside.mk (show ¬ ((k, n).1 = 28 ∨ (k, n).1 = 29) from hk)
                  clear hk
                  go_upto_region 35 with (fail)
                  obtain ⟨xs, F', hFe, ho, hxs⟩ := HS3.out
                  obtain ⟨Ao, co, rfl⟩ := own_slice ho
                  have HOW := Aside.mk ho
                  have HOX := Aside.mk hxs
                  have HFE := Aside.mk hFe
                  have hpn : pp ∉ bl (Value.slice Ao out.len co) := fun h => by have := (own_mem ho pp h).1; have := HPW.out; omega
                  have hgn : gw ∉ bl (Value.slice Ao out.len co) := fun h => by have := (own_mem ho gw h).1; have := HGWL.out; omega
                  have HPN := Aside.mk hpn
                  have HGN := Aside.mk hgn
                  have hnd : (bl (Value.slice Ao out.len co) ++ (F' ++ [])).Nodup := by
                    rw [← List.append_assoc, ← hFe]
                    rw [List.append_nil]; exact HN.out
                  have HND := Aside.mk hnd
                  clear hFe ho hxs hpn hgn hnd
                  have hm1000 : out.len ≤ 1000 := by have := HM.out; omega
                  have hBW := HU3.out.size
                  go_wp2_with (first | (at_builtin; go_must (refine app_op k n (.slice none 0 0) rfl _ _ rfl (.slice Ao out.len co) w.heap.size out.len xs rfl rfl HOW.out hm1000 hBW rfl ?_; intro g cap w7 hown hu hloc; have HSN := Aside.mk (push (b := .nil) HOX.out (SliceAt.nil _ _) HND.out hu hown hloc); have HP7 := Aside.mk ((hu.block pp (blk_lt' HP3.out) HPN.out).trans HP3.out); have HW7 := Aside.mk (HW3.out.frame (hu.block gw (Nat.lt_of_lt_of_le HGWL.out hBW) HGN.out)); have HU7 := Aside.mk (HU3.out.trans hu (fun g hg hlt => by have := (own_mem HOW.out g hg).1; omega)); clear hown hu hloc)))
                  obtain ⟨F7, hs7, hn7⟩ := HSN.out
                  have HS7 := Aside.mk hs7
                  have HN7 := Aside.mk hn7
                  clear hs7 hn7
                  go_roundg k1
                  case measure => omega
                  case rel => exact ⟨many + 1, r, out.snoc k n .nil, F7, _, ⟨by have := HI.out; simp only [List.length_cons] at this; omega, by have := HI.out; omega⟩, ⟨by have := HMM.out; omega, by rw [Ops.len_snoc]; have := HM.out; omega⟩, ⟨by rw [HRN.out, HOP2.out, blkOp_plain HMM.out HKN.out]⟩, HU7, HP7, HS7, HN7, HW7, HZR⟩
            | none =>
              have hnc := fun W => number_calls x W HXZ.out
              rw [hnum] at hnc
              have hnc2 : ∀ W, Calls Tryd.prog 37 #[.string x] W fun e w' => e = .returned (.tuple #[.int .i64 0, .bool false]) ∧ w' = W := fun W => hnc W
              have HNC := Aside.mk hnc2
              have HOPN := Aside.mk (refNumber_none hnum)
              clear hnc hnc2 hnum
              go_upto_region 15 with (first | (go_at_call 37; refine (HNC.out _).mono ?_; rintro e w' ⟨rfl, rfl⟩) | (go_at_call 29; refine (refwords_calls _).mono ?_; rintro e w' ⟨rfl, rfl⟩))
              obtain ⟨g8, hg8⟩ : ∃ g8, g8 = W1.heap.size := ⟨_, rfl⟩
              obtain ⟨gx, hgx⟩ : ∃ gx, gx = W1.heap.size + 1 := ⟨_, rfl⟩
              have hWa : ((W1.alloc (.cells #[.int .i64 1, .int .i64 0, .slice none 0 0] 62)).heap.size) = gx := by rw [hgx]; simp
              have H8' : ((W1.alloc (.cells #[.int .i64 1, .int .i64 0, .slice none 0 0] 62)).alloc (.cells (wordsB.map Value.string).toArray 9)).heap[g8]? = some (.cells #[.int .i64 1, .int .i64 0, .slice none 0 0] 62 (0, 0)) := (heap_alloc_old _ _ (by simp; omega)).trans (hg8 ▸ heap_alloc_new W1 _)
              have hfr : ∀ g, g < W1.heap.size → ((W1.alloc (.cells #[.int .i64 1, .int .i64 0, .slice none 0 0] 62)).alloc (.cells (wordsB.map Value.string).toArray 9)).heap[g]? = W1.heap[g]? := fun g hg => (heap_alloc_old _ _ (by simp; omega)).trans (heap_alloc_old W1 _ hg)
              have HP2' := (hfr pp (blk_lt' HP1.out)).trans HP1.out
              have HU2' := (HU1.out.trans (Upd.alloc W1 (.cells #[.int .i64 1, .int .i64 0, .slice none 0 0] 62) [pp]) (fun g hg _ => hg)).trans (Upd.alloc (W1.alloc (.cells #[.int .i64 1, .int .i64 0, .slice none 0 0] 62)) (.cells (wordsB.map Value.string).toArray 9) [pp]) (fun g hg _ => hg)
              have HS2' := HS1.out.frame (fun g hg => hfr g (HS1.out.mem g hg).2)
              have HW2' := HW1.out.frame (hfr gw (Nat.lt_of_lt_of_le HGWL.out HU1.out.size))
              have hcell : ∀ j : Nat, (hj : j < 29) → ((W1.alloc (.cells #[.int .i64 1, .int .i64 0, .slice none 0 0] 62)).alloc (.cells (wordsB.map Value.string).toArray 9)).cell? ⟨gx, j, none⟩ = some (.string (wordsB[j]'hj)) := fun j hj => by rw [← hWa]; exact words_cell _ j hj
              have HGP8 := Aside.mk (show g8 ≠ pp by have := blk_lt' HP1.out; omega)
              have HGW8 := Aside.mk (show g8 ≠ gw by have := HGWL.out; have := HU1.out.size; omega)
              have HGL := Aside.mk (show w.heap.size ≤ g8 by have := HU1.out.size; omega)
              rw [← hgx]
              rw [← hg8] at HG8 ⊢
              have HCE := Aside.mk hcell
              have H8 := Aside.mk H8'
              have HP2 := Aside.mk HP2'
              have HU2 := Aside.mk HU2'
              have HS2 := Aside.mk HS2'
              have HW2 := Aside.mk HW2'
              clear hg8 hgx hWa H8' hfr HP2' HU2' HS2' HW2' hcell HP1 HU1 HS1 HW1
              generalize (W1.alloc (.cells #[.int .i64 1, .int .i64 0, .slice none 0 0] 62)).alloc (.cells (wordsB.map Value.string).toArray 9) = W8 at HCE H8 HP2 HU2 HS2 HW2 ⊢
              go_loopg [11] 30 (fun kq v11 w' => ∃ (j : Nat), v11 = .int .i64 (j : Int) ∧ w' = W8 ∧ Aside (j + kq = 30 ∧ j ≤ 29 ∧ ∀ i, (hi : i < 29) → i < j → wordsB[i]'hi ≠ x))
              case atStart => exact ⟨0, rfl, rfl, ⟨rfl, by omega, fun i _ h => absurd h (by omega)⟩⟩
              case round =>
                obtain ⟨j, rfl, rfl, HJ⟩ := hrel
                cases gk with
                | zero => have := HJ.out; omega
                | succ k2 =>
                  by_cases h1 : (j : Int) < 29
                  · have h1b := decide_eq_true h1
                    have h1c := decide_eq_true (show j < 29 by omega)
                    have hj : j < 29 := by omega
                    obtain ⟨y, hy⟩ : ∃ y, y = wordsB[j]'hj := ⟨_, rfl⟩
                    have hc := HCE.out j hj
                    rw [← hy] at hc
                    have HY := Aside.mk hy
                    clear hy
                    have p1 := eq_true (show 0 ≤ (j : Int) by omega)
                    have q1 := eq_true h1
                    by_cases h2 : y = x
                    · have h2b := seq_true h2
                      have hko := kindOf_some hj (HY.out ▸ h2) (fun i hi => HJ.out.2.2 i (by omega) hi)
                      have hop := HOPN.out
                      rw [hko] at hop
                      have HOP3 := Aside.mk hop
                      have hj29 : ((j : Int) == 29) = false := by simp; omega
                      clear h2 hko hop
                      obtain ⟨x0, x1, x2, y0, y1, y2⟩ := blk3 H8.out
                      go_upto_region 20 with (fail)
                      obtain ⟨k, hkq⟩ : ∃ k : Int, k = 2 + (j : Int) := ⟨_, rfl⟩
                      obtain ⟨n, hnq⟩ : ∃ n : Int, n = 0 := ⟨_, rfl⟩
                      have HOP2 : Aside (opOf x = some (k, n)) := ⟨by rw [hkq, hnq]; exact HOP3.out⟩
                      rw [← hkq]
                      have H8' : (wr.setCell ⟨g8, 0, none⟩ (.int .i64 k)).heap[g8]? = some (.cells #[.int .i64 k, .int .i64 n, .slice none 0 0] 62 (0, 0)) := by rw [hnq]; exact set_at (j := 0) H8.out _
                      have HP2' := (Below.heap_setCell wr ⟨g8, 0, none⟩ (.int .i64 k) pp (Ne.symm HGP8.out)).trans HP2.out
                      have HU2' := HU2.out.trans (Upd.set (p := ⟨g8, 0, none⟩) (S := [g8]) (by simp) (.int .i64 k)) (fun g hg hlt => by have := HGL.out; simp at hg; omega)
                      have HS2' := HS2.out.frame (w' := wr.setCell ⟨g8, 0, none⟩ (.int .i64 k)) (fun g hg => Below.heap_setCell _ _ _ _ (fun e => HG8.out (by simp at e; rw [← e]; exact hg)))
                      have HW2' := HW2.out.frame (Below.heap_setCell wr ⟨g8, 0, none⟩ (.int .i64 k) gw (Ne.symm HGW8.out))
                      clear hkq hnq x0 x1 x2 y0 y1 y2 h1 h1b h1c hj hc p1 q1 h2b hj29 HCE H8 HP2 HU2 HS2 HW2 HOP3 HJ HY
                      generalize wr.setCell ⟨g8, 0, none⟩ (.int .i64 k) = W2 at H8' HP2' HU2' HS2' HW2' ⊢
                      have HP2 := Aside.mk HP2'
                      have H8 := Aside.mk H8'
                      have HU2 := Aside.mk HU2'
                      have HS2 := Aside.mk HS2'
                      have HW2 := Aside.mk HW2'
                      clear HP2' H8' HU2' HS2' HW2'
                      obtain ⟨c0, c1, f0, f1⟩ := blk2 HP2.out
                      have hmm := HM.out.1
                      by_cases hm : 128 < many + 1
                      · have hm1 : decide ((128 : Int) < (many : Int) + 1) = true := decide_eq_true (by omega)
                        have HRE := Aside.mk (show R = .error 2 by rw [HRN.out, HOP2.out, blkOp_limit hm])
                        have HUE := Aside.mk (HU2.out.trans (Upd.set (p := ⟨pp, 1, none⟩) (S := [pp]) (by simp) (.int .i64 ((many : Int) + 1))) (fun g hg _ => hg))
                        clear hm
                        go_wp2
                        go_ret2
                        exact BP.error HRE.out HUE.out
                      · have hm1 : decide ((128 : Int) < (many : Int) + 1) = false := decide_eq_false (by omega)
                        have HMM := Aside.mk hm
                        clear hm
                        go_upto_region 23 with (fail)
                        have HP3' : (W2.setCell ⟨pp, 1, none⟩ (.int .i64 ((many : Int) + 1))).heap[pp]? = some (.cells #[.slice A2 r.length c2, .int .i64 ((many + 1 : Nat) : Int)] 59 (0, 0)) := set_at (j := 1) HP2.out _
                        have HU3' := HU2.out.trans (Upd.set (p := ⟨pp, 1, none⟩) (S := [pp]) (by simp) (.int .i64 ((many : Int) + 1))) (fun g hg _ => hg)
                        have H83' := (Below.heap_setCell W2 ⟨pp, 1, none⟩ (.int .i64 ((many : Int) + 1)) g8 HGP8.out).trans H8.out
                        have HS3' := HS2.out.frame (w' := W2.setCell ⟨pp, 1, none⟩ (.int .i64 ((many : Int) + 1))) (fun g hg => Below.heap_setCell _ _ _ _ (fun e => HPF.out (by simpa [e] using hg)))
                        have HW3' := HW2.out.frame (w' := W2.setCell ⟨pp, 1, none⟩ (.int .i64 ((many : Int) + 1))) (Below.heap_setCell _ _ _ _ HGP.out)
                        clear c0 c1 f0 f1 HP2 HU2 HS2 HW2 H8
                        generalize W2.setCell ⟨pp, 1, none⟩ (.int .i64 ((many : Int) + 1)) = W3 at HP3' HU3' H83' HS3' HW3' ⊢
                        have HP3 := Aside.mk HP3'
                        have HU3 := Aside.mk HU3'
                        have H83 := Aside.mk H83'
                        have HS3 := Aside.mk HS3'
                        have HW3 := Aside.mk HW3'
                        clear HP3' HU3' H83' HS3' HW3'
                        obtain ⟨x0, x1, x2, y0, y1, y2⟩ := blk3 H83.out
                        by_cases hk : k = 28 ∨ k = 29
                        · have hkt : (k == 28) = true ∨ ((k == 28) = false ∧ (k == 29) = true) := by
                            rcases hk with rfl | rfl
                            · exact .inl rfl
                            · exact .inr ⟨rfl, rfl⟩
                          have HKK := Aside.mk hk
                          clear hk
                          obtain ⟨c0, c1, f0, f1⟩ := blk2 HP3.out
                          rcases hkt with hk1 | ⟨hk1, hk2⟩
                          all_goals
                            cases r with
                            | nil =>
                              simp only [List.length_nil] at c0
                              have HRE := Aside.mk (show R = .error 6 by rw [HRN.out, HOP2.out, blkOp_cut HMM.out HKK.out])
                              go_wp2
                              go_ret2
                              exact BP.error HRE.out HU3.out
                            | cons b r2 =>
                              obtain ⟨A3, c3, e3, hl1, hl2, hl3⟩ := id HW3.out
                              simp only [Value.slice.injEq] at e3
                              obtain ⟨rfl, -, rfl⟩ := e3
                              obtain ⟨o2, rfl, -⟩ := hl3 (by simp)
                              simp only [List.length_cons] at c0 hl1 hl2
                              obtain ⟨hx0, -, hl4', hwt⟩ := Wd.tail HW3.out
                              have HWT := Aside.mk hwt
                              clear hl3 hwt
                              have hne0 : ((r2.length : Int) + 1 == 0) = false := by simp; omega
                              by_cases hb : b = lb
                              · have hq2 : (b.toList == [91]) = true := by rw [hb, ByteArray.toList_eq]; rfl
                                have HBL := Aside.mk hb
                                clear hb
                                by_cases hd6 : 6 < d + 1
                                · have hd7 : decide ((6 : Int) < (d : Int) + 1) = true := decide_eq_true (by omega)
                                  have HRE := Aside.mk (show R = .error 2 by rw [HRN.out, HOP2.out, HBL.out, blkOp_deep HMM.out HKK.out hd6])
                                  clear hd6
                                  go_wp2
                                  all_goals
                                    go_ret2
                                    exact BP.error HRE.out (HU3.out.trans (Upd.set (by simp) _) (fun g hg _ => hg))
                                · have hd7 : decide ((6 : Int) < (d : Int) + 1) = false := decide_eq_false (by omega)
                                  have HD6 := Aside.mk hd6
                                  clear hd6
                                  go_upto_region 31 with (fail)
                                  obtain ⟨A4, hA4⟩ : ∃ A4, A4 = (if c2 = 1 then some (⟨gw, o2, none⟩ : Addr) else some ⟨gw, o2 + 1, none⟩) := ⟨_, rfl⟩
                                  have hA5 : A4 = some ⟨gw, o2 + 1, none⟩ ∨ r2.length = 0 := by
                                    by_cases h : c2 = 1
                                    · exact .inr (by omega)
                                    · exact .inl (by rw [hA4, if_neg h])
                                  rw [← hA4]
                                  have HW4' := (HWT.out A4 (c2 - 1) hA5 (by omega)).frame (Below.heap_setCell W3 ⟨pp, 0, none⟩ (.slice A4 r2.length (c2 - 1)) gw HGP.out)
                                  have HP4' := set_at (j := 0) HP3.out (.slice A4 r2.length (c2 - 1))
                                  have HU4' := HU3.out.trans (Upd.set (p := ⟨pp, 0, none⟩) (S := [pp]) (by simp) (.slice A4 r2.length (c2 - 1))) (fun g hg _ => hg)
                                  have H84' := (Below.heap_setCell W3 ⟨pp, 0, none⟩ (.slice A4 r2.length (c2 - 1)) g8 HGP8.out).trans H83.out
                                  have HS4' := HS3.out.frame (w' := W3.setCell ⟨pp, 0, none⟩ (.slice A4 r2.length (c2 - 1))) (fun g hg => Below.heap_setCell _ _ _ _ (fun e => HPF.out (by simpa [e] using hg)))
                                  clear hA4 hA5 c0 c1 f0 f1 hx0 hl1 hl2 x0 x1 x2 y0 y1 y2 HP3 HU3 H83 HS3 HW3 HWT
                                  generalize W3.setCell ⟨pp, 0, none⟩ (.slice A4 r2.length (c2 - 1)) = W4 at HW4' HP4' HU4' H84' HS4' ⊢
                                  generalize c2 - 1 = c4 at HW4' HP4' ⊢
                                  have HP4 := Aside.mk (show W4.heap[pp]? = some (.cells #[.slice A4 r2.length c4, .int .i64 ((many + 1 : Nat) : Int)] 59 (0, 0)) from HP4')
                                  have HW4 := Aside.mk HW4'
                                  have HU4 := Aside.mk HU4'
                                  have H84 := Aside.mk H84'
                                  have HS4 := Aside.mk HS4'
                                  clear HW4' HP4' HU4' H84' HS4'
                                  have HZS := Aside.mk (fun y hy => HZR.out y (List.mem_cons_of_mem _ hy) : ∀ y ∈ r2, y.size ≤ 1000000)
                                  have hcall := IH.out k1 (d + 1) (many + 1) r2 W4 _ pp gw (by have := HI.out; have := HN0.out; omega) (by have := HI.out; simp only [List.length_cons] at this; omega) (by have := HD6.out; omega) (by have := HMM.out; omega) HP4.out HW4.out HGP.out (Nat.lt_of_lt_of_le HGWL.out HU4.out.size) HZS.out
                                  have HC := Aside.mk (show Calls Tryd.prog 26 #[.pointer (some ⟨pp, 0, none⟩), .int .i64 ((d : Int) + 1)] W4 _ from hcall)
                                  clear hcall
                                  cases hx : blk k1 (d + 1) (many + 1) r2 .nil with
                                  | error c =>
                                    have HX := Aside.mk hx
                                    have hc0 : (c != 0) = true := by rcases blk_code _ _ _ _ _ _ hx with rfl | rfl | rfl <;> rfl
                                    clear hx
                                    have HRE := Aside.mk (show R = .error c by rw [HRN.out, HOP2.out, HBL.out, blkOp_err HMM.out HKK.out HD6.out HX.out])
                                    go_wp2_with (first | (go_at_call 26; refine HC.out.mono ?_; rintro e w5 ⟨hu, he, -⟩; obtain rfl := he c HX.out; have HU5 := Aside.mk hu; clear hu he))
                                    go_ret2
                                    exact BP.error HRE.out (HU4.out.trans HU5.out (fun g hg _ => hg))
                                  | ok z =>
                                    obtain ⟨t, r3, m3⟩ := z
                                    have HX := Aside.mk hx
                                    have HFT := Aside.mk (blk_fits _ _ _ _ _ _ _ _ (by have := HMM.out; omega) hx)
                                    have HMEM := Aside.mk (blk_mem _ _ _ _ _ _ _ _ hx)
                                    clear hx
                                    go_upto_region 35 with (first | (go_at_call 26; refine HC.out.mono ?_; rintro e w5 ⟨hu, -, he⟩; obtain ⟨v5, F5, vl5, rfl, hs5, hn5, hp5, hw5⟩ := he t r3 m3 HX.out; obtain ⟨A5, c5, rfl⟩ := slice_form hs5; have h85 := (hu.block g8 (blk_lt' H84.out) (by simpa using HGP8.out)).trans H84.out; obtain ⟨x0, x1, x2, y0, y1, y2⟩ := blk3 h85; have H85 := Aside.mk h85; have HU5 := Aside.mk hu; have HSS5 := Aside.mk hs5; have HN5 := Aside.mk hn5; have HP5 := Aside.mk hp5; have HW5 := Aside.mk hw5; clear hu he hs5 hn5 hp5 hw5 h85))
                                    have H86' := set_at (j := 2) H85.out (.slice A5 t.len c5)
                                    have HP6' := (Below.heap_setCell w5 ⟨g8, 2, none⟩ (.slice A5 t.len c5) pp (Ne.symm HGP8.out)).trans HP5.out
                                    have HW6' := HW5.out.frame (Below.heap_setCell w5 ⟨g8, 2, none⟩ (.slice A5 t.len c5) gw (Ne.symm HGW8.out))
                                    have HS6' := (HS4.out.frame (fun g hg => HU5.out.block g (HS4.out.mem g hg).2 (fun e => HPF.out (by simp at e; rw [← e]; exact hg)))).frame (w' := w5.setCell ⟨g8, 2, none⟩ (.slice A5 t.len c5)) (fun g hg => Below.heap_setCell _ _ _ _ (fun e => HG8.out (by simp at e; rw [← e]; exact hg)))
                                    have HS56' := HSS5.out.frame (w' := w5.setCell ⟨g8, 2, none⟩ (.slice A5 t.len c5)) (fun g hg => Below.heap_setCell _ _ _ _ (fun e => by have h1 := (HSS5.out.mem g hg).1; have h2 := blk_lt' H84.out; simp at e; omega))
                                    have HU6' := (HU4.out.trans HU5.out (fun g hg _ => hg)).trans (Upd.set (p := ⟨g8, 2, none⟩) (S := [g8]) (by simp) (.slice A5 t.len c5)) (fun g hg hlt => by have := HGL.out; simp at hg; omega)
                                    have hBW4 := HU4.out.size
                                    clear x0 x1 x2 y0 y1 y2
                                    generalize w5.setCell ⟨g8, 2, none⟩ (.slice A5 t.len c5) = W6 at H86' HP6' HW6' HS6' HS56' HU6' ⊢
                                    have HP6 := Aside.mk HP6'
                                    have HW6 := Aside.mk HW6'
                                    have HS6 := Aside.mk HS6'
                                    have HS56 := Aside.mk HS56'
                                    have HU6 := Aside.mk HU6'
                                    obtain ⟨x0, x1, x2, y0, y1, y2⟩ := blk3 (show W6.heap[g8]? = some (.cells #[.int .i64 k, .int .i64 n, .slice A5 t.len c5] 62 (0, 0)) from H86')
                                    clear H86' HP6' HW6' HS6' HS56' HU6'
                                    obtain ⟨xs, F', hFe, ho, hxs⟩ := HS6.out
                                    obtain ⟨Ao, co, rfl⟩ := own_slice ho
                                    have HOW := Aside.mk ho
                                    have HOX := Aside.mk hxs
                                    have HFE := Aside.mk hFe
                                    have hpn : pp ∉ bl (Value.slice Ao out.len co) := fun h => by have := (own_mem ho pp h).1; have := HPW.out; omega
                                    have hgn : gw ∉ bl (Value.slice Ao out.len co) := fun h => by have := (own_mem ho gw h).1; have := HGWL.out; omega
                                    have HPN := Aside.mk hpn
                                    have HGN := Aside.mk hgn
                                    have hnd : (bl (Value.slice Ao out.len co) ++ (F' ++ F5)).Nodup := by
                                      rw [← List.append_assoc, ← hFe]
                                      rw [List.nodup_append]
                                      exact ⟨HN.out, HN5.out, fun a ha b hb e => by subst e; have h1 := (HS4.out.mem a ha).2; have h2 := (HS56.out.mem a hb).1; omega⟩
                                    have HND := Aside.mk hnd
                                    clear hFe ho hxs hpn hgn hnd
                                    have hm1000 : out.len ≤ 1000 := by have := HM.out; omega
                                    have hBW := HU6.out.size
                                    go_wp2_with (first | (at_builtin; go_must (refine app_op k n (.slice A5 t.len c5) rfl _ _ rfl (.slice Ao out.len co) w.heap.size out.len xs rfl rfl HOW.out hm1000 hBW rfl ?_; intro g cap w7 hown hu hloc; have HSN := Aside.mk (push (b := t) HOX.out (HS56.out.lower hBW4) HND.out hu hown hloc); have HP7 := Aside.mk ((hu.block pp (blk_lt' HP6.out) HPN.out).trans HP6.out); have HW7 := Aside.mk (HW6.out.frame (hu.block gw (Nat.lt_of_lt_of_le HGWL.out hBW) HGN.out)); have HU7 := Aside.mk (HU6.out.trans hu (fun g hg hlt => by have := (own_mem HOW.out g hg).1; omega)); clear hown hu hloc)))
                                    obtain ⟨F7, hs7, hn7⟩ := HSN.out
                                    have HS7 := Aside.mk hs7
                                    have HN7 := Aside.mk hn7
                                    clear hs7 hn7
                                    go_roundg k1
                                    case measure => omega
                                    case rel => exact ⟨m3, r3, out.snoc k n t, F7, _, ⟨by have := HI.out; have := HFT.out.1; simp only [List.length_cons] at *; omega, by have := HI.out; omega⟩, ⟨HFT.out.2.2, by rw [Ops.len_snoc]; have := HM.out; have := HFT.out.2.1; omega⟩, ⟨by rw [HRN.out, HOP2.out, HBL.out, blkOp_in HMM.out HKK.out HD6.out HX.out]⟩, HU7, HP7, HS7, HN7, HW7, ⟨fun y hy => HZS.out y (HMEM.out y hy)⟩⟩

                              · have hq2 := sc_false (l := [91]) hb
                                have HRE := Aside.mk (show R = .error 7 by rw [HRN.out, HOP2.out, blkOp_bad HMM.out HKK.out hb])
                                clear hb
                                go_wp2
                                go_ret2
                                exact BP.error HRE.out HU3.out
                        · have hk1 : (k == 28) = false := by simp; omega
                          have hk2 : (k == 29) = false := by simp; omega
                          have HKN := Aside.mk (show ¬ ((k, n).1 = 28 ∨ (k, n).1 = 29) from hk)
                          clear hk
                          go_upto_region 35 with (fail)
                          obtain ⟨xs, F', hFe, ho, hxs⟩ := HS3.out
                          obtain ⟨Ao, co, rfl⟩ := own_slice ho
                          have HOW := Aside.mk ho
                          have HOX := Aside.mk hxs
                          have HFE := Aside.mk hFe
                          have hpn : pp ∉ bl (Value.slice Ao out.len co) := fun h => by have := (own_mem ho pp h).1; have := HPW.out; omega
                          have hgn : gw ∉ bl (Value.slice Ao out.len co) := fun h => by have := (own_mem ho gw h).1; have := HGWL.out; omega
                          have HPN := Aside.mk hpn
                          have HGN := Aside.mk hgn
                          have hnd : (bl (Value.slice Ao out.len co) ++ (F' ++ [])).Nodup := by
                            rw [← List.append_assoc, ← hFe]
                            rw [List.append_nil]; exact HN.out
                          have HND := Aside.mk hnd
                          clear hFe ho hxs hpn hgn hnd
                          have hm1000 : out.len ≤ 1000 := by have := HM.out; omega
                          have hBW := HU3.out.size
                          go_wp2_with (first | (at_builtin; go_must (refine app_op k n (.slice none 0 0) rfl _ _ rfl (.slice Ao out.len co) w.heap.size out.len xs rfl rfl HOW.out hm1000 hBW rfl ?_; intro g cap w7 hown hu hloc; have HSN := Aside.mk (push (b := .nil) HOX.out (SliceAt.nil _ _) HND.out hu hown hloc); have HP7 := Aside.mk ((hu.block pp (blk_lt' HP3.out) HPN.out).trans HP3.out); have HW7 := Aside.mk (HW3.out.frame (hu.block gw (Nat.lt_of_lt_of_le HGWL.out hBW) HGN.out)); have HU7 := Aside.mk (HU3.out.trans hu (fun g hg hlt => by have := (own_mem HOW.out g hg).1; omega)); clear hown hu hloc)))
                          obtain ⟨F7, hs7, hn7⟩ := HSN.out
                          have HS7 := Aside.mk hs7
                          have HN7 := Aside.mk hn7
                          clear hs7 hn7
                          go_roundg k1
                          case measure => omega
                          case rel => exact ⟨many + 1, r, out.snoc k n .nil, F7, _, ⟨by have := HI.out; simp only [List.length_cons] at this; omega, by have := HI.out; omega⟩, ⟨by have := HMM.out; omega, by rw [Ops.len_snoc]; have := HM.out; omega⟩, ⟨by rw [HRN.out, HOP2.out, blkOp_plain HMM.out HKN.out]⟩, HU7, HP7, HS7, HN7, HW7, HZR⟩

                    · have h2b := seq_false h2
                      have hn : ∀ i, (hi : i < 29) → i < j + 1 → wordsB[i]'hi ≠ x := fun i hi h => by
                        by_cases e : i = j
                        · subst e
                          rw [← HY.out]
                          exact h2
                        · exact HJ.out.2.2 i hi (by omega)
                      have HNN := Aside.mk hn
                      clear hn h2
                      go_wp2
                      go_roundg k2
                      case measure => omega
                      case rel => exact ⟨j + 1, by simp; done, rfl, ⟨by have := HJ.out; omega, by omega, HNN.out⟩⟩
                  · have h1b := decide_eq_false h1
                    have h1c := decide_eq_false (show ¬ j < 29 by omega)
                    have hj29 : j = 29 := by have := HJ.out; omega
                    have HRE := Aside.mk (show R = .error 7 by
                      have hop := HOPN.out
                      rw [kindOf_none (fun i hi => HJ.out.2.2 i hi (by omega))] at hop
                      rw [HRN.out, hop]
                      rfl)
                    subst hj29
                    go_wp2
                    go_ret2
                    exact BP.error HRE.out HU2.out
end Go.Proofs.YtbadcpaopdbgnaaDoor.Lang
