/- Ac: Am13, Am14, Am15 in one. -/
import Derived.Deep.AppendSrc
import Derived.Laws.Strings
import Derived.Laws.Strings2
import Derived.Laws.IdiomStrings
import Derived.Test.YtciciaikajdenaaTPR12Am12
set_option linter.unusedSimpArgs false
set_option linter.unusedVariables false
/- append to an owned slice, of whatever is appended: a list, a string's bytes, zeros. -/
namespace Go.Proofs.Ytciciaikajdenaa
open Go.RowKit

/-- What the second argument of an append yields: n elements, the cells news. -/
structure SrcX (P : Program) (e : TypeId) (i : TypeInfo) (z : Value) (tx : TypeId) (x : Value) (n : Nat) (news : List Value) (w : World) : Prop where
  newsLen : news.length = n * i.size
  one : ∀ u ∈ news, u.oneCell' = true
  nothing : n = 0 → ∀ (t ty : TypeId) (base : Option Addr) (sLen sCap : Nat), P.underlying t = some (.slice e) → sLen ≤ sCap →
    (Builtin.append_ #[t, tx] ty #[.slice base sLen sCap, x]).run P w = .ok (.slice base sLen sCap) w
  room : ∀ (t ty : TypeId) (g sLen sCap : Nat) (cur : Array Value), P.underlying t = some (.slice e) → w.heap[g]? = some (.cells cur e (0, 0)) → sLen + n ≤ sCap → sLen * i.size + news.length ≤ cur.size →
    (Builtin.append_ #[t, tx] ty #[.slice (some ⟨g, 0, none⟩) sLen sCap, x]).run P w =
      .ok (.slice (some ⟨g, 0, none⟩) (sLen + n) sCap) (w.setRow g (cur.toList.take (sLen * i.size) ++ news ++ cur.toList.drop (sLen * i.size + news.length)).toArray)
  grow : ∀ (t ty : TypeId) (base : Option Addr) (sLen sCap : Nat) (olds : List Value), P.underlying t = some (.slice e) →
    (Builtin.firstCells i.size sLen (.slice base sLen sCap)).run P w.drew = .ok olds.toArray w.drew → sCap < sLen + n → ((sLen + n : Nat) : Int) ≤ 9223372036854775807 → Builtin.nextslicecap (sLen + n) sCap * i.bytes ≤ 281474976710656 →
    (Builtin.append_ #[t, tx] ty #[.slice base sLen sCap, x]).run P w =
      .ok (.slice (some ⟨w.heap.size, 0, none⟩) (sLen + n) (grownCap w (sLen + n) sCap e))
        (w.drew.alloc (.cells ((olds ++ news).toArray ++ Builtin.zeroCells z.cells (grownCap w (sLen + n) sCap e - (sLen + n))) e))

section
variable {P : Program} {e tx : TypeId} {i : TypeInfo} {z x : Value} {n : Nat} {news : List Value} {w : World}

theorem SrcX.ofSrc (hi : P.info? e = some i) (hz : i.zero = some z) (hs : Src P i.size tx x n news w) : SrcX P e i z tx x n news w := by
  refine ⟨hs.newsLen, hs.one, fun h0 t ty base sLen sCap ht hc => ?_, fun t ty g sLen sCap cur ht hg hroom hfit => ?_, fun t ty base sLen sCap olds ht hold hg h63 hfit => run_append_grow_src w t tx ty e i z ht hi hz base sLen sCap olds hold x n news hs hg h63 hfit⟩
  · subst h0
    have hn : news = [] := List.eq_nil_of_length_eq_zero (by rw [hs.newsLen]; simp)
    subst hn
    have h1 := hs.len
    have h2 := hs.cells
    rcases hs.kind with ⟨e', hk⟩ | hk <;> cases base <;> simp [Builtin.append_, run_underlying ht, run_underlying hk, sizeOf, typeInfo, hi, h1, h2, hc, storeCells]
  · have hst := run_storeCells_at P g (sLen * i.size) e news 0 cur w hg (by simpa using hfit) hs.one
    simp only [Nat.add_zero] at hst
    rcases hs.kind with ⟨e', hk⟩ | hk <;> simp [Builtin.append_, run_underlying ht, run_underlying hk, sizeOf, typeInfo, hi, hs.len, hroom, hs.cells, Addr.add_lit, hst]

theorem SrcX.ofRd (hi : P.info? e = some i) (hz : i.zero = some z) {e' : TypeId} (hk : P.underlying tx = some (.slice e')) (h : rd w i.size x n news) (h1 : ∀ u ∈ news, u.oneCell' = true) : SrcX P e i z tx x n news w := by
  refine SrcX.ofSrc hi hz ?_
  obtain ⟨hl, ⟨⟨a, c, rfl⟩, rfl⟩ | ⟨b, off, cap, rfl, hc, hb, hr⟩⟩ := h
  · have hn : news = [] := List.eq_nil_of_length_eq_zero (by rw [hl]; simp)
    subst hn
    refine ⟨.inl ⟨e', hk⟩, fun _ => rfl, ?_, ?_, by simp, by simp⟩ <;> cases a <;> simp [Builtin.firstCells, loadCells, loadCellsFrom]
  · exact Src.ofSlice w hk ⟨b, off, none⟩ n cap news hl (fun j u hj => by rw [addr_add]; exact hr j u hj) h1

variable {W0 : World} {L : List HProp} {v : Value} {xs : List Value}

theorem St.appendX {t ty : TypeId} {m : Nat} (h : St W0 w (ownS e i.size v n xs :: L)) (hzs : z.cells.size = i.size) (ht : P.underlying t = some (.slice e)) (hs : SrcX P e i z tx x m news w)
    (h63 : n + m ≤ maxLen) (hbytes : (n + m) * i.bytes ≤ 140737488355328) :
    ∃ v' w', (Builtin.append_ #[t, tx] ty #[v, x]).run P w = .ok v' w' ∧ St W0 w' (ownS e i.size v' (n + m) (xs ++ news) :: L) := by
  obtain ⟨hl, hc⟩ := h.own_cases
  have hln := hs.newsLen
  have hsmall : n + m ≤ 9223372036854775807 := by simp only [maxLen] at h63; omega
  have hlen : (xs ++ news).length = (n + m) * i.size := by rw [List.length_append, hl, hln, Nat.add_mul]
  by_cases hm : m = 0
  · have hn : news = [] := List.eq_nil_of_length_eq_zero (by rw [hln, hm]; simp)
    refine ⟨v, w, ?_, by subst hm hn; simpa using h⟩
    rcases hc with ⟨⟨a', rfl⟩, rfl, rfl⟩ | ⟨b, cap, rest, rfl, h2, h3, h4, s⟩
    · exact hs.nothing hm t ty a' 0 0 ht (Nat.le_refl _)
    · exact hs.nothing hm t ty _ n cap ht h2
  · have hmp : 0 < m := Nat.pos_of_ne_zero hm
    have grown : ∀ (old : Nat), old < n + m → St W0 w L →
        St W0 (w.drew.alloc (.cells ((xs ++ news).toArray ++ Builtin.zeroCells z.cells (grownCap w (n + m) old e - (n + m))) e))
          (ownS e i.size (.slice (some ⟨w.heap.size, 0, none⟩) (n + m) (grownCap w (n + m) old e)) (n + m) (xs ++ news) :: L) := by
      intro old ho s
      have hge := grownCap_ge w (n + m) old e
      have hcm : grownCap w (n + m) old e ≤ maxLen := grownCap_le_maxLen w (n + m) old e h63
      have s2 := s.drew.allocC ((xs ++ news).toArray ++ Builtin.zeroCells z.cells (grownCap w (n + m) old e - (n + m))) e
      refine St.own_mk (rest := (Builtin.zeroCells z.cells (grownCap w (n + m) old e - (n + m))).toList) ?_ hlen hge hcm ?_
      · have e1 : (xs ++ news ++ (Builtin.zeroCells z.cells (grownCap w (n + m) old e - (n + m))).toList).toArray = (xs ++ news).toArray ++ Builtin.zeroCells z.cells (grownCap w (n + m) old e - (n + m)) := by
          apply Array.ext'; simp
        rw [e1]; exact s2
      · rw [hlen]
        simp only [Array.length_toList, size_zeroCells, hzs, ← Nat.add_mul]
        exact Nat.mul_le_mul_right _ (by omega)
    rcases hc with ⟨⟨a', rfl⟩, rfl, rfl⟩ | ⟨b, cap, rest, rfl, h2, h3, h4, s⟩
    · have hr := hs.grow t ty a' 0 0 [] ht (by cases a' <;> simp [Builtin.firstCells, loadCells, loadCellsFrom]) (by omega) (by omega) (growslice_fits (by omega) hbytes)
      exact ⟨_, _, hr, grown 0 (by omega) h.tail⟩
    · by_cases hroom : n + m ≤ cap
      · have hfit : n * i.size + news.length ≤ (xs ++ rest).toArray.size := by
          have := Nat.mul_le_mul_right i.size hroom
          rw [Nat.add_mul] at this
          simp; omega
        have hr := hs.room t ty b n cap (xs ++ rest).toArray ht s.heap hroom hfit
        refine ⟨_, _, hr, ?_⟩
        have s2 := s.setRow ((xs ++ rest).toArray.toList.take (n * i.size) ++ news ++ (xs ++ rest).toArray.toList.drop (n * i.size + news.length)).toArray
        refine St.own_mk (rest := rest.drop news.length) ?_ hlen hroom h3 ?_
        · have e1 : (xs ++ rest).toArray.toList.take (n * i.size) ++ news ++ (xs ++ rest).toArray.toList.drop (n * i.size + news.length) = xs ++ news ++ rest.drop news.length := by
            simp only [List.append_assoc]
            rw [← hl, List.take_left, List.drop_length_add_append]
          rw [e1] at s2
          rw [e1]; exact s2
        · have := Nat.mul_le_mul_right i.size hroom
          rw [Nat.add_mul] at this
          simp only [List.length_append, List.length_drop]; omega
      · have hf := run_firstCells_some (P := P) w.drew i.size n ⟨b, 0, none⟩ n cap xs hl (fun j u hj => by
          rw [addr_add, Nat.zero_add]
          have hb := s.drew.cell (b := b) j
          rw [hb]
          have := (List.getElem?_eq_some_iff.1 hj).1
          simpa [List.getElem?_append, this] using hj)
        have hr := hs.grow t ty (some ⟨b, 0, none⟩) n cap xs ht hf (by omega) (by omega) (growslice_fits (by omega) hbytes)
        exact ⟨_, _, hr, grown cap (by omega) s.tail⟩

theorem append_coreX {t ty : TypeId} {m : Nat} {us : List Value} {g : Frag} (hg : Le g (fun b => w.heap[b]?)) (ho : ownS e i.size v n us g)
    (ht : P.underlying t = some (.slice e)) (hzs : z.cells.size = i.size) (hs : SrcX P e i z tx x m news w)
    (h63 : n + m ≤ maxLen) (hbytes : (n + m) * i.bytes ≤ 140737488355328) :
    ∃ v' w', (Builtin.append_ #[t, tx] ty #[v, x]).run P w = .ok v' w' ∧ w'.os = w.os ∧ w'.tape = w.tape ∧ w'.output = w.output ∧
      (∃ f, ownS e i.size v' (n + m) (us ++ news) f ∧ Le f (fun b => w'.heap[b]?) ∧ ∀ b, f b ≠ none → g b ≠ none ∨ w.heap.size ≤ b) ∧ ∀ b, g b = none → b < w.heap.size → w'.heap[b]? = w.heap[b]? := by
  let W0 : World := { w with heap := #[] }
  let rest : Frag := fun b => if g b = none then w.heap[b]? else none
  have hnp : ∀ w' : World, newPart W0 w' = fun b => w'.heap[b]? := fun w' => by funext b; simp [newPart, W0]
  have hrest : Le rest (fun b => w.heap[b]?) := fun b ob e => by
    simp only [rest] at e
    split at e
    · exact e
    · cases e
  have hdis : Disj g rest := fun b => by
    by_cases q : g b = none
    · exact .inl q
    · right; simp [rest, q]
  have st : St W0 w [ownS e i.size v n us, fun f => f = rest] := by
    refine ⟨rfl, rfl, rfl, Nat.zero_le _, fun k hk => absurd hk (Nat.not_lt_zero _), ?_⟩
    rw [hnp]
    exact ⟨g, rest, ho, ⟨rest, fun _ => none, rfl, trivial, fun b => .inr rfl, Le.refl _, (fun b o e => by cases e)⟩, hdis, hg, hrest⟩
  obtain ⟨v', w', hr, h2⟩ := st.appendX (ty := ty) hzs ht hs h63 hbytes
  refine ⟨v', w', hr, h2.os, h2.tape, h2.output, ?_⟩
  have hsep := h2.sep
  rw [hnp] at hsep
  obtain ⟨f, f2, p, ⟨f3, f4, p3, _, _, l3, _⟩, d1, l1, l2⟩ := hsep
  subst p3
  have hle : Le rest (fun b => w'.heap[b]?) := l3.trans l2
  have hfd : Disj f rest := d1.le (Le.refl _) l3
  refine ⟨⟨f, p, l1, fun b hb => ?_⟩, fun b hb hlt => ?_⟩
  · by_cases q : g b = none
    · right
      have := (hfd b).resolve_left hb
      simp only [rest, q, if_true] at this
      exact Nat.le_of_not_lt fun hlt => by rw [Array.getElem?_eq_getElem hlt] at this; cases this
    · exact .inl q
  · have hs := Array.getElem?_eq_getElem hlt
    rw [hs]
    exact hle b _ (by simp only [rest, hb, if_true]; exact hs)
end

section
variable {P : Program} {T : Tab} {nt : Nat} {fr : Fr} {σ : List AObj} {o : Oper} {next : Fr → List AObj → Prop}

/-- What an operand gives to an append: rows. -/
def SrcOk (P : Program) (fr : Fr) (σ : List AObj) (U tx : TypeId) (sz : Nat) (b : Operand) (rows2 : List (List DV)) : Prop :=
  ∀ k x nt A w (i : TypeInfo) (z : Value), Sim k x nt fr σ A w → P.info? U = some i → i.zero = some z → i.size = sz → ∃ us, SrcX P U i z tx (A.eval b) rows2.length us w ∧ FRep x.F sz rows2 us

theorem do_appendX (hT : okTab P T = true) {t tx sz bytes loc ver : Nat} {agg : Bool} {a b : Operand} {U : TypeId} {rows rows2 : List (List DV)} {n : Nat} (ho : o.op = .call { callee := .builtin .append, args := #[a, b], argTypes := #[t, tx] }) (ht : dstOk o.dst nt = true)
    (hs : find1 T.sl t = some U) (he : find1 T.ty U = some (sz, bytes, agg)) {z : List Value} (hz : ZIs P U z) (hzl : Nat.beq z.length sz = true) (ha : aget fr a = .own loc ver sz 0 n) (hl : σ[loc]? = some (.arr U sz ver rows)) (hn : n = rows.length) (hb : SrcOk P fr σ U tx sz b rows2)
    (h63 : rows.length + rows2.length ≤ maxLen) (hbytes : (rows.length + rows2.length) * bytes ≤ 140737488355328)
    (hnx : next (fput o.dst (.own loc (ver + 1) sz 0 (rows.length + rows2.length)) fr) (σ.set loc (.arr U sz (ver + 1) (rows ++ rows2)))) : DoOp P nt o fr σ false next := by
  refine do_value ht (fun v σ' => v = .own loc (ver + 1) sz 0 (rows.length + rows2.length) ∧ σ' = σ.set loc (.arr U sz (ver + 1) (rows ++ rows2))) (fun v σ' ⟨a, b⟩ => a ▸ b ▸ hnx) fun k x A w s => ?_
  have hzl := Nat.eq_of_beq_eq_true hzl
  have hty := T.tyIs hT he
  have hra := s.arg a
  rw [ha] at hra
  obtain ⟨i, d, e1, e2, e3, e4, e5⟩ := hty.ex
  obtain ⟨i', zv, z1, z2, z3⟩ := hz.ex
  rw [e1] at z1
  injection z1 with z1
  subst z1
  have hzs : zv.cells.size = i.size := by rw [e3, ← hzl, ← z3]; simp
  obtain ⟨news, hx, hf2⟩ := hb k x nt A w i zv s e1 z2 e3
  have h1 := hx.one
  subst e3
  subst e4
  obtain ⟨g, g1, g2, g3, g4⟩ := s.heap.own
  have core : ∀ g0, ORep x (x.env loc) (.arr U i.size ver rows) g0 → Le g0 (fun b => w.heap[b]?) → ∃ us v' w', FRep x.F i.size rows us ∧ (∀ u ∈ us, u.oneCell' = true) ∧ (Builtin.append_ #[t, tx] o.type #[A.eval a, A.eval b]).run P w = .ok v' w' ∧ w'.os = w.os ∧ w'.tape = w.tape ∧ w'.output = w.output ∧
      (∃ f, ownS U i.size v' (n + rows2.length) (us ++ news) f ∧ Le f (fun b => w'.heap[b]?) ∧ ∀ b, f b ≠ none → g0 b ≠ none ∨ w.heap.size ≤ b) ∧ ∀ b, g0 b = none → b < w.heap.size → w'.heap[b]? = w.heap[b]? := fun g0 hg0 hle => by
    obtain ⟨us, f1, f2, f3⟩ := arr_own hg0 hn hra
    obtain ⟨v', w', c⟩ := append_coreX (ty := o.type) hle f3 (T.slIs hT hs) hzs hx (by rw [hn]; exact h63) (by rw [hn]; exact hbytes)
    exact ⟨us, v', w', f1, f2, c⟩
  obtain ⟨us, v', w', f1, f2, hrun, c1, c2, c3, ⟨f, p, p1, p2⟩, c5⟩ := core (g loc) (g1 loc _ hl) (g2 loc)
  have hlen : n + rows2.length = (rows ++ rows2).length := by rw [hn]; simp
  have one : ∀ u ∈ us ++ news, u.oneCell' = true := fun u hu => (List.mem_append.1 hu).elim (f2 u) (h1 u)
  obtain ⟨_, ad, cap, ev, hcap, hlv, hdd, hver⟩ := own_arr (x := x) (ver := ver + 1) (f1.append hf2) one hlen p
  have hev : (x.env loc).ver = ver := (g1 loc _ hl).1
  have hxe : CtxExt x (x.upd loc (slotOf v' (ver + 1))) := Ctx.upd_ext (by rw [hver]; omega) fun q => by omega
  have hslot : (x.upd loc (slotOf v' (ver + 1))).env loc = slotOf v' (ver + 1) := by simp [Ctx.upd]
  refine ⟨v', w', _, _, _, ?_, hxe, ?_, s.heap.upd hl hxe (o' := .arr U i.size (ver + 1) (rows ++ rows2)) fun g0 hg0 hle => ?_, ⟨c1.trans s.calm.os, c2.trans s.calm.tape, c3.trans s.calm.output⟩, (fun h => by cases h), rfl, rfl⟩
  · unfold execOp
    simp [ho, resolve, invoke, builtin, hrun]
  · refine ⟨hra.1, by rw [hslot, hver]; exact Nat.le_refl _, ad, cap, by rw [ev, hn], fun _ => ⟨by rw [← hn]; exact hcap, fun q => ?_, fun q => hdd (hslot ▸ q)⟩⟩
    rw [hslot] at q ⊢
    obtain ⟨q1, q2⟩ := hlv q
    rw [q1, q2]
    simp
  · obtain ⟨us', v2, w2, f1', f2', hrun', _, _, _, ⟨f', p', p1', p2'⟩, c5'⟩ := core g0 hg0 hle
    rw [hrun] at hrun'
    injection hrun' with e1 e2
    subst e1 e2
    have one' : ∀ u ∈ us' ++ news, u.oneCell' = true := fun u hu => (List.mem_append.1 hu).elim (f2' u) (h1 u)
    obtain ⟨q, _⟩ := own_arr (x := x) (ver := ver + 1) (f1'.append hf2) one' hlen p'
    exact ⟨⟨f', q.ext hxe, p1', p2'⟩, c5'⟩

/-- What an operand's rows are, to be read. -/
def RowsOk (fr : Fr) (σ : List AObj) (sz : Nat) (b : Operand) (rows2 : List (List DV)) : Prop :=
  ∀ k x nt A w, Sim k x nt fr σ A w → ∃ us, rd w sz (A.eval b) rows2.length us ∧ FRep x.F sz rows2 us ∧ ∀ u ∈ us, u.oneCell' = true

/-! What may be appended. -/
theorem src_of {U t sz : Nat} {b : Operand} {rows2 : List (List DV)} (ht : P.underlying t = some (.slice U)) (h : RowsOk fr σ sz b rows2) : SrcOk P fr σ U t sz b rows2 := by
  intro k x nt A w i z s hi hz hsz
  obtain ⟨us, hx, hf, h1⟩ := h k x nt A w s
  subst hsz
  exact ⟨us, SrcX.ofRd hi hz ht hx h1, hf⟩
theorem rows_d {sz : Nat} {b : Operand} {rows2 : List (List DV)} (h : srcRows sz (aget fr b) = some rows2) : RowsOk fr σ sz b rows2 :=
  fun k x nt A w s => src_rd s.heap.hF (s.arg b) h

/-- An owned slice. -/
theorem rows_own {sz : Nat} {b : Operand} {loc2 ver2 off2 n2 : Nat} {rows rows2 : List (List DV)} {V : TypeId} (hb : aget fr b = .own loc2 ver2 sz off2 n2) (hl : σ[loc2]? = some (.arr V sz ver2 rows)) (h : (rows.drop off2).take n2 = rows2) (hn : off2 + n2 ≤ rows.length) : RowsOk fr σ sz b rows2 := by
  intro k x nt A w s
  obtain ⟨g, g1, g2, g3, g4⟩ := s.heap.own
  have hb' := s.arg b
  rw [hb] at hb'
  have hd := asD_rep (σ := σ) (d := .lst sz ((rows.drop off2).take n2)) hb' ⟨rfl, V, rows, hl, rfl, hn⟩ hl (g1 loc2 _ hl) (g4 loc2).1
  rw [h] at hd
  have hle : Le (Un x.F (g loc2)) (fun b => w.heap[b]?) := Le.un s.heap.hF (g2 loc2)
  have hd' : ARep ⟨Un x.F (g loc2), x.env, x.n⟩ (.d (.lst sz rows2)) (A.eval b) := hd
  obtain ⟨us, hx, hf, h1⟩ := src_rd (x := ⟨Un x.F (g loc2), x.env, x.n⟩) (sz := sz) (rows := rows2) hle hd' (by simp [srcRows])
  refine ⟨us, hx, ?_, h1⟩
  -- the cells, over what was frozen before
  obtain ⟨hl1, _, ad, cap', e, hq⟩ := hb'
  have ho := g1 loc2 _ hl
  obtain ⟨hv, ho⟩ := ho
  obtain ⟨q1, q2, q3⟩ := hq hv.symm
  rcases ho with ⟨hlive, rfl⟩ | ⟨hlive, us0, rest, hb0, hf0, h10, _⟩
  · have : rows2 = [] := by rw [← h]; simp
    subst this
    exact (List.eq_nil_of_length_eq_zero (by rw [hx.1]; simp))
  · have h2 := (hf0.drop off2).take n2
    rw [h] at h2
    have e2 : us = (us0.drop (off2 * sz)).take (n2 * sz) := by
      obtain ⟨q4, q5⟩ := q2 hlive
      have hl2 := h2.len
      obtain ⟨hlx, hx⟩ := hx
      apply List.ext_getElem?
      intro j
      by_cases hj : j < us.length
      · rcases hx with ⟨_, h0⟩ | ⟨b2, off, cap2, e3, _, _, hr⟩
        · rw [hlx, h0] at hj; omega
        · rw [e3] at e
          injection e with e4 _ _
          rw [q4] at e4
          injection e4 with e4
          injection e4 with e5 e6 _
          have h3 := hr j _ (List.getElem?_eq_getElem hj)
          rw [List.getElem?_eq_getElem hj, ← h3, e5, e6]
          have hc := g2 loc2 _ _ hb0
          have hc : w.heap[(x.env loc2).blk]? = _ := hc
          rw [cell_of_row w _ _ _ _ _ hc]
          have hj2 : j < ((us0.drop (off2 * sz)).take (n2 * sz)).length := by rw [hl2, ← hlx]; exact hj
          simp only [List.length_take, List.length_drop] at hj2
          rw [List.getElem?_take, if_pos (by omega), List.getElem?_drop, List.getElem?_toArray, List.getElem?_append_left (by omega)]
      · rw [List.getElem?_eq_none (by omega), List.getElem?_eq_none (by rw [hl2, ← hlx]; omega)]
    rw [e2]
    exact h2

end
end Go.Proofs.Ytciciaikajdenaa

/- More steps: append of strings, zeros and owned slices; parts of owned slices; strings' bytes and parts; bytes as a string; an empty literal. -/
namespace Go.Proofs.Ytciciaikajdenaa
open Go.RowKit

section
variable {P : Program} {T : Tab} {fr : Fr} {σ : List AObj} {o : Oper}

/-- What stands for an owned slice, as it is now. -/
theorem own_now {k : K0} {x : Ctx} {nt : Nat} {A : Act} {w : World} (s : Sim k x nt fr σ A w) {loc ver sz off len : Nat} {U : TypeId} {rows : List (List DV)} {u : Value} (hl : σ[loc]? = some (.arr U sz ver rows)) (h : ARep x (.own loc ver sz off len) u) :
    ∃ ad cap, u = .slice ad len cap ∧ len ≤ cap ∧ ((x.env loc).live = true → ad = some ⟨(x.env loc).blk, off * sz, none⟩ ∧ off + cap ≤ (x.env loc).cap) ∧ ((x.env loc).live = false → cap = 0) ∧ loc < x.n ∧ ver = (x.env loc).ver := by
  obtain ⟨g, g1, _⟩ := s.heap.own
  obtain ⟨hv2, _⟩ := g1 loc _ hl
  obtain ⟨hl1, hv, ad, cap, e1, hq⟩ := h
  obtain ⟨q1, q2, q3⟩ := hq hv2.symm
  exact ⟨ad, cap, e1, q1, q2, q3, hl1, hv2.symm⟩

/-- A part of an owned slice. -/
theorem rd_slice_own (hT : okTab P T = true) {t e sz bytes loc ver off len : Nat} {agg : Bool} {a : Operand} {lo hi : Option Operand} {l h : Option Int} {U : TypeId} {rows : List (List DV)} (ho : o.op = .slice t a lo hi none) (ht : find1 T.sl t = some e) (he : find1 T.ty e = some (sz, bytes, agg))
    (ha : aget fr a = .own loc ver sz off len) (hs : σ[loc]? = some (.arr U sz ver rows)) (hl : bndA fr lo = some l) (hh : bndA fr hi = some h) (h0 : 0 ≤ l.getD 0) (h1 : l.getD 0 ≤ h.getD len) (h2 : h.getD len ≤ len) (h3 : l.getD 0 = 0 ∨ l.getD 0 < len) :
    RdOp P o fr σ (.own loc ver sz (off + (l.getD 0).toNat) ((h.getD len).toNat - (l.getD 0).toNat)) := by
  intro k x nt A w s
  have r := s.arg a
  rw [ha] at r
  obtain ⟨ad, cap, e1, hcap, q2, q3, hl1, hver⟩ := own_now s hs r
  refine ⟨sliced ad (l.getD 0).toNat (h.getD len).toNat cap sz, ?_, fun w' _ => ?_⟩
  · unfold sliced
    refine ⟨hl1, Nat.le_of_eq hver, if cap = (l.getD 0).toNat then ad else ad.map (·.add ((l.getD 0).toNat * sz)), cap - (l.getD 0).toNat, rfl, fun _ => ⟨by omega, fun hlive => ?_, fun hlive => by have := q3 hlive; omega⟩⟩
    obtain ⟨q4, q5⟩ := q2 hlive
    subst q4
    by_cases hz : cap = (l.getD 0).toNat
    · rw [if_pos hz]
      have h4 : (l.getD 0).toNat = 0 := by omega
      rw [h4, Nat.add_zero]
      exact ⟨rfl, by omega⟩
    · rw [if_neg hz]
      refine ⟨?_, by omega⟩
      simp [Addr.add_mk, Nat.add_mul]
  · have hE : P.elem t = e := by simp [Program.elem, T.slIs hT ht]
    have ht2 : P.underlying t = some (.slice (P.elem t)) := by rw [hE]; exact T.slIs hT ht
    have hz := (T.tyIs hT he).size_run w'
    unfold execOp
    simp only [ho, e1]
    rcases bnd_run s hl with ⟨rfl, b1⟩ | ⟨ln, lk, rfl, b1⟩ <;> rcases bnd_run s hh with ⟨rfl, b2⟩ | ⟨hn, hk, rfl, b2⟩ <;> simp only [b1, b2, Option.map_none, Option.getD_none, Option.getD_some] at h0 h1 h2 ⊢
    · simp [run_sliceAt_slice w' t _ none none none ht2, run_slice_all w' t ad len cap ht2, hE, hz, Result.andThen]
    · simp [run_sliceAt_slice w' t _ none _ none ht2, run_slice_h w' t ad len cap ht2 hk hn (by omega) (by omega), hE, hz, Result.andThen]
    · simp [run_sliceAt_slice w' t _ _ none none ht2, run_slice_l w' t ad len cap ht2 lk ln (by omega) (by omega), hE, hz, Result.andThen]
    · simp [run_sliceAt_slice w' t _ _ _ none ht2, run_slice_lh w' t ad len cap ht2 lk hk ln hn (by omega) (by omega) (by omega), hE, hz, Result.andThen]

end

section
variable {P : Program} {T : Tab} {Z : TabZ} {nt : Nat} {Q : Exit → Fr → List AObj → Prop} {next : Fr → List AObj → Prop} {fr : Fr} {σ σ' : List AObj} {ops : Array Oper} {dr : Bool} {dos ends : List Nat} {l : Trr} {i d : Nat} {o : Oper} {v : AV}
variable {dst : Option Tmp} {op : Op} {ty : TypeId} {pos : String} {aft : Array Edge} {gd : Option (Nat × Bool)}

theorem s_sliceO (hT : okTab P T = true) {t e sz bytes loc ver off len : Nat} {agg : Bool} {a : Operand} {lo hi : Option Operand} {lw hg2 : Option Int} {U : TypeId} {rows : List (List DV)} (hp : dr = dr) (hg : guardB ops fr gd = some true) (ht : Nat.blt d nt = true) (ha : aget fr a = .own loc ver sz off len) (hs : find1 T.sl t = some e) (he : find1 T.ty e = some (sz, bytes, agg)) (ho : σ[loc]? = some (.arr U sz ver rows)) (hl : bndA fr lo = some lw) (hh : bndA fr hi = some hg2) (h3 : 0 ≤ lw.getD 0 ∧ lw.getD 0 ≤ hg2.getD len ∧ hg2.getD len ≤ len ∧ (lw.getD 0 = 0 ∨ lw.getD 0 < len)) (h : AL P nt ops dr dos ends l Q ((d, .own loc ver sz (off + (lw.getD 0).toNat) ((hg2.getD len).toNat - (lw.getD 0).toNat)) :: fr) σ) : ALo P nt ops dr dos ends i ⟨some d, .slice t a lo hi none, ty, pos, aft, gd⟩ l Q fr σ :=
  ⟨fun hh0 => s_read hh0 hp hg ht (rd_slice_own hT rfl hs he ha ho hl hh h3.1 h3.2.1 h3.2.2.1 h3.2.2.2) h⟩
/-- append, of whatever. -/
theorem s_appX (hT : okTab P T = true) (hZ : okTabZ P Z = true) {t tx sz bytes loc ver : Nat} {agg : Bool} {a b : Operand} {U : TypeId} {rows rows2 : List (List DV)} {n : Nat} {z : List Value} (hp : (dr && !dos.contains i) = false) (hg : guardB ops fr gd = some true) (hk : (dr && !ends.contains i && !false) = false) (ht : Nat.blt d nt = true) (ha : aget fr a = .own loc ver sz 0 n) (hs : find1 T.sl t = some U) (he : find1 T.ty U = some (sz, bytes, agg)) (hz : find1 Z.zs U = some z) (hzl : Nat.beq z.length sz = true) (hl : σ[loc]? = some (.arr U sz ver rows)) (hby : Nat.ble bytes 256 = true) (hb : SrcOk P fr σ U tx sz b rows2) (hσ : seqL (σ.set loc (.arr U sz (ver + 1) (rows ++ rows2))) some = some σ') (hn : n = rows.length ∧ n + rows2.length ≤ 549755813888) (h : AL P nt ops dr dos ends l Q ((d, .own loc (ver + 1) sz 0 (n + rows2.length)) :: fr) σ') : ALo P nt ops dr dos ends i ⟨some d, .call { callee := .builtin .append, args := #[a, b], argTypes := #[t, tx] }, ty, pos, aft, gd⟩ l Q fr σ := by
  refine ⟨fun ho => s_do (keep := false) ho hp hg hk ?_⟩
  obtain ⟨hn, h63⟩ := hn
  subst hn
  simp only [seqL_eq, Option.some.injEq] at hσ
  subst hσ
  exact do_appendX hT rfl ht hs he (TabZ.z hZ hz) hzl ha hl rfl hb (by unfold maxLen; omega) (by have := Nat.le_of_ble_eq_true hby; exact Nat.le_trans (Nat.mul_le_mul h63 this) (by omega)) h

/-- An empty slice, written out. -/
theorem s_lit0 (hT : okTab P T = true) (hZ : okTabZ P Z = true) {t e sz bytes : Nat} {agg : Bool} {z : List Value} (hp : (dr && !dos.contains i) = false) (hg : guardB ops fr gd = some true) (hk : (dr && !ends.contains i && !true) = false) (ht : Nat.blt d nt = true) (hs : find1 T.sl t = some e) (he : find1 T.ty e = some (sz, bytes, agg)) (hz : find1 Z.zs e = some z) (h : AL P nt ops dr dos ends l Q ((d, .d .nil) :: fr) σ) : ALo P nt ops dr dos ends i ⟨some d, .buildSlice t 0 #[], ty, pos, aft, gd⟩ l Q fr σ := by
  refine ⟨fun ho => s_do (keep := true) ho hp hg hk ?_⟩
  refine do_value ht (fun v σ' => v = .d .nil ∧ σ' = σ) (fun v σ' ⟨a, b⟩ => a ▸ b ▸ h) fun k x A w s => ?_
  obtain ⟨i0, zv, e1, e2, e3⟩ := (TabZ.z hZ hz).ex
  have hsz := (T.tyIs hT he).size_run w
  refine ⟨.slice (some ⟨w.heap.size, 0, none⟩) 0 0, w.alloc (.cells #[] e), x.frz (Un x.F (oneFrag w.heap.size (.cells #[] e))), .d .nil, _, ?_, Ctx.frz_ext (Le.un_left _ _), ⟨_, rfl⟩, frz_new s.heap _, s.calm.alloc _, fun _ => agree_alloc _ _, rfl, rfl⟩
  unfold execOp
  simp [Instr.buildSlice, run_underlying (T.slIs hT hs), hsz, Instr.fill, newRow]
  congr 2
  apply Array.ext'
  simp [Array.range]

theorem o_wk (t : Nat) {x : DV} (y : DV) (h0 : fget fr t = .d x) (hw : Wk x y) (h : ALo P nt ops dr dos ends i o l Q ((t, .d y) :: fr) σ) : ALo P nt ops dr dos ends i o l Q fr σ :=
  ⟨fun ho => al_ghost (ghost_wk h0 hw) (h.out ho)⟩
end
end Go.Proofs.Ytciciaikajdenaa

/- Steps over owned objects that are not laid out: what changes, what stays. -/
namespace Go.Proofs.Ytciciaikajdenaa
open Go.RowKit

/-- One object is another; more may stand behind. -/
structure Chg (σ : List AObj) (loc : Nat) (o : AObj) (σ' : List AObj) : Prop where
  at' : σ'[loc]? = some o
  len : σ.length ≤ σ'.length
  keep' : ∀ k, k ≠ loc → k < σ.length → σ'[k]? = σ[k]?

/-- A new object. -/
structure Fresh (σ : List AObj) (loc : Nat) (o : AObj) (σ' : List AObj) : Prop where
  at' : σ'[loc]? = some o
  keep' : ∀ k o', σ[k]? = some o' → σ'[k]? = some o' ∧ k ≠ loc

section
variable {σ σ' : List AObj} {loc k n : Nat} {o o' o2 : AObj}
theorem Chg.keep (h : Chg σ loc o σ') (hk : k ≠ loc) (h2 : σ[k]? = some o2) : σ'[k]? = some o2 := by
  rw [h.keep' k hk (List.getElem?_eq_some_iff.1 h2).1]; exact h2
theorem chg_set (h : σ[loc]? = some o') : Chg σ loc o (σ.set loc o) :=
  ⟨List.getElem?_set_self (List.getElem?_eq_some_iff.1 h).1, by simp, fun k hk _ => List.getElem?_set_ne (Ne.symm hk)⟩
theorem Fresh.keep (h : Fresh σ loc o σ') (hk : σ[k]? = some o') : σ'[k]? = some o' := (h.keep' k o' hk).1
theorem Fresh.ne (h : Fresh σ loc o σ') (hk : σ[k]? = some o') : k ≠ loc := (h.keep' k o' hk).2
theorem fresh_app (σ : List AObj) (o : AObj) : Fresh σ σ.length o (σ ++ [o]) :=
  ⟨by simp, fun k o' hk => by
    have := (List.getElem?_eq_some_iff.1 hk).1
    exact ⟨by rw [List.getElem?_append_left this]; exact hk, by omega⟩⟩
end

section
variable {P : Program} {T : Tab} {Z : TabZ} {nt : Nat} {Q : Exit → Fr → List AObj → Prop} {next : Fr → List AObj → Prop} {fr : Fr} {σ σ' : List AObj} {ops : Array Oper} {dr : Bool} {dos ends : List Nat} {l : Trr} {i d : Nat} {o : Oper} {v : AV}
variable {dst : Option Tmp} {op : Op} {ty : TypeId} {pos : String} {aft : Array Edge} {gd : Option (Nat × Bool)}

/-- A nil slice becomes an owned one. -/
theorem o_adoptF (t U sz : Nat) (h0 : fget fr t = .d .nil) (h : ∀ loc σ', Fresh σ loc (.arr U sz 0 []) σ' → ALo P nt ops dr dos ends i o l Q ((t, .own loc 0 sz 0 0) :: fr) σ') : ALo P nt ops dr dos ends i o l Q fr σ :=
  ⟨fun ho => al_ghost (ghost_adopt U sz h0) ((h _ _ (fresh_app _ _)).out ho)⟩
theorem w_adoptF {c : Code} (t U sz : Nat) (h0 : fget fr t = .d .nil) (h : ∀ loc σ', Fresh σ loc (.arr U sz 0 []) σ' → AWk P nt c Q ((t, .own loc 0 sz 0 0) :: fr) σ') : AWk P nt c Q fr σ :=
  aw_ghost (ghost_adopt U sz h0) (h _ _ (fresh_app _ _))

/-- An owned slice becomes frozen. -/
theorem freezeF (t : Nat) {loc U sz ver n : Nat} {rows : List (List DV)} (ht : fget fr t = .own loc ver sz 0 n) (hl : σ[loc]? = some (.arr U sz ver rows)) (hn : n = rows.length) : Ghost fr σ ((t, .d (.lst sz rows)) :: fr) (σ.set loc .dead) :=
  ghost_freeze (ts := [(t, .lst sz rows)]) hl fun p hp => by
    simp at hp
    subst hp
    rw [ht]
    exact ⟨rfl, U, rows, hl, by simp [hn], by omega⟩
theorem o_freezeF (t : Nat) {loc U sz ver n : Nat} {rows : List (List DV)} (ht : fget fr t = .own loc ver sz 0 n) (hl : σ[loc]? = some (.arr U sz ver rows)) (hn : n = rows.length) (h : ∀ σ', Chg σ loc .dead σ' → ALo P nt ops dr dos ends i o l Q ((t, .d (.lst sz rows)) :: fr) σ') : ALo P nt ops dr dos ends i o l Q fr σ :=
  ⟨fun ho => al_ghost (freezeF t ht hl hn) ((h _ (chg_set hl)).out ho)⟩
theorem w_freezeF {c : Code} (t : Nat) {loc U sz ver n : Nat} {rows : List (List DV)} (ht : fget fr t = .own loc ver sz 0 n) (hl : σ[loc]? = some (.arr U sz ver rows)) (hn : n = rows.length) (h : ∀ σ', Chg σ loc .dead σ' → AWk P nt c Q ((t, .d (.lst sz rows)) :: fr) σ') : AWk P nt c Q fr σ :=
  aw_ghost (freezeF t ht hl hn) (h _ (chg_set hl))

/-- append. -/
theorem s_appF (hT : okTab P T = true) (hZ : okTabZ P Z = true) {t tx sz bytes loc ver : Nat} {agg : Bool} {a b : Operand} {U : TypeId} {rows rows2 rows3 : List (List DV)} {n m : Nat} {z : List Value} (hp : (dr && !dos.contains i) = false) (hg : guardB ops fr gd = some true) (hk : (dr && !ends.contains i && !false) = false) (ht : Nat.blt d nt = true) (ha : aget fr a = .own loc ver sz 0 n) (hs : find1 T.sl t = some U) (he : find1 T.ty U = some (sz, bytes, agg)) (hz : find1 Z.zs U = some z) (hzl : Nat.beq z.length sz = true) (hby : Nat.ble bytes 256 = true) (hl : σ[loc]? = some (.arr U sz ver rows)) (hb : SrcOk P fr σ U tx sz b rows2) (h3 : rows ++ rows2 = rows3) (hn : n = rows.length ∧ n + rows2.length ≤ 549755813888 ∧ n + rows2.length = m) (h : ∀ σ', Chg σ loc (.arr U sz (ver + 1) rows3) σ' → AL P nt ops dr dos ends l Q ((d, .own loc (ver + 1) sz 0 m) :: fr) σ') : ALo P nt ops dr dos ends i ⟨some d, .call { callee := .builtin .append, args := #[a, b], argTypes := #[t, tx] }, ty, pos, aft, gd⟩ l Q fr σ := by
  obtain ⟨h1, h2, h4⟩ := hn
  subst h3 h4
  exact s_appX hT hZ hp hg hk ht ha hs he hz hzl hl hby hb (seqL_eq _ _) ⟨h1, h2⟩ (h _ (chg_set hl))

/-- A part of a frozen list, said. -/
theorem s_sliceE (hT : okTab P T = true) {t e sz bytes : Nat} {agg : Bool} {a : Operand} {lo hi : Option Operand} {rows rows' : List (List DV)} {lw hg2 : Option Int} (hp : dr = dr) (hg : guardB ops fr gd = some true) (ht : Nat.blt d nt = true) (ha : aget fr a = .d (.lst sz rows)) (hs : find1 T.sl t = some e) (he : find1 T.ty e = some (sz, bytes, agg)) (hl : bndA fr lo = some lw) (hh : bndA fr hi = some hg2) (h3 : 0 ≤ lw.getD 0 ∧ lw.getD 0 ≤ hg2.getD rows.length ∧ hg2.getD rows.length ≤ rows.length) (h4 : (rows.take (hg2.getD rows.length).toNat).drop (lw.getD 0).toNat = rows') (h : AL P nt ops dr dos ends l Q ((d, .d (.lst sz rows')) :: fr) σ) : ALo P nt ops dr dos ends i ⟨some d, .slice t a lo hi none, ty, pos, aft, gd⟩ l Q fr σ := by
  subst h4
  exact s_slice hT hp hg ht ha hs he hl hh h3 h
end
end Go.Proofs.Ytciciaikajdenaa
