/- Ac: Am13, Am14, Am15 in one. -/
import Derived.Deep.AppendSrc
import Derived.Laws.Strings
import Derived.Laws.Strings2
import Derived.Laws.IdiomStrings
import Derived.Test.YtciciaikajdenaaAm12
set_option linter.unusedSimpArgs false
set_option linter.unusedVariables false
/- append to an owned slice, of whatever is appended: a list, a string's bytes, zeros. -/
namespace Go.Proofs.Ytciciaikajdenaa
open Go.RowKit

/-- What the second argument of an append yields: n elements, the cells news. -/
structure SrcX (P : Program) (e : TypeId) (i : TypeInfo) (z : Value) (tx : TypeId) (x : Value) (n : Nat) (news : List Value) (w : World) : Prop where
  newsLen : news.length = n * i.size
  one : ∀ u ∈ news, u.oneCell' = true
  nothing : n = 0 → ∀ (t ty : TypeId) (base : Option Addr) (sLen sCap : Nat), P.underlying t = some (.slice e) → sLen ≤ sCap →
    (Builtin.append_ #[t, tx] ty #[.slice base sLen sCap, x]).run P w = .ok (.slice base sLen sCap) w
  room : ∀ (t ty : TypeId) (g sLen sCap : Nat) (cur : Array Value), P.underlying t = some (.slice e) → w.heap[g]? = some (.cells cur e (0, 0)) → sLen + n ≤ sCap → sLen * i.size + news.length ≤ cur.size →
    (Builtin.append_ #[t, tx] ty #[.slice (some ⟨g, 0, none⟩) sLen sCap, x]).run P w =
      .ok (.slice (some ⟨g, 0, none⟩) (sLen + n) sCap) (w.setRow g (cur.toList.take (sLen * i.size) ++ news ++ cur.toList.drop (sLen * i.size + news.length)).toArray)
  grow : ∀ (t ty : TypeId) (base : Option Addr) (sLen sCap : Nat) (olds : List Value), P.underlying t = some (.slice e) →
    (Builtin.firstCells i.size sLen (.slice base sLen sCap)).run P w.drew = .ok olds.toArray w.drew → sCap < sLen + n → ((sLen + n : Nat) : Int) ≤ 9223372036854775807 → Builtin.nextslicecap (sLen + n) sCap * i.bytes ≤ 281474976710656 →
    (Builtin.append_ #[t, tx] ty #[.slice base sLen sCap, x]).run P w =
      .ok (.slice (some ⟨w.heap.size, 0, none⟩) (sLen + n) (grownCap w (sLen + n) sCap e))
        (w.drew.alloc (.cells ((olds ++ news).toArray ++ Builtin.zeroCells z.cells (grownCap w (sLen + n) sCap e - (sLen + n))) e))

section
variable {P : Program} {e tx : TypeId} {i : TypeInfo} {z x : Value} {n : Nat} {news : List Value} {w : World}

theorem SrcX.ofSrc (hi : P.info? e = some i) (hz : i.zero = some z) (hs : Src P i.size tx x n news w) : SrcX P e i z tx x n news w := by
  refine ⟨hs.newsLen, hs.one, fun h0 t ty base sLen sCap ht hc => ?_, fun t ty g sLen sCap cur ht hg hroom hfit => ?_, fun t ty base sLen sCap olds ht hold hg h63 hfit => run_append_grow_src w t tx ty e i z ht hi hz base sLen sCap olds hold x n news hs hg h63 hfit⟩
  · subst h0
    have hn : news = [] := List.eq_nil_of_length_eq_zero (by rw [hs.newsLen]; simp)
    subst hn
    have h1 := hs.len
    have h2 := hs.cells
    rcases hs.kind with ⟨e', hk⟩ | hk <;> cases base <;> simp [Builtin.append_, run_underlying ht, run_underlying hk, sizeOf, typeInfo, hi, h1, h2, hc, storeCells]
  · have hst := run_storeCells_at P g (sLen * i.size) e news 0 cur w hg (by simpa using hfit) hs.one
    simp only [Nat.add_zero] at hst
    rcases hs.kind with ⟨e', hk⟩ | hk <;> simp [Builtin.append_, run_underlying ht, run_underlying hk, sizeOf, typeInfo, hi, hs.len, hroom, hs.cells, Addr.add_lit, hst]

theorem SrcX.ofRd (hi : P.info? e = some i) (hz : i.zero = some z) {e' : TypeId} (hk : P.underlying tx = some (.slice e')) (h : rd w i.size x n news) (h1 : ∀ u ∈ news, u.oneCell' = true) : SrcX P e i z tx x n news w := by
  refine SrcX.ofSrc hi hz ?_
  obtain ⟨hl, ⟨⟨a, c, rfl⟩, rfl⟩ | ⟨b, off, cap, rfl, hc, hb, hr⟩⟩ := h
  · have hn : news = [] := List.eq_nil_of_length_eq_zero (by rw [hl]; simp)
    subst hn
    refine ⟨.inl ⟨e', hk⟩, fun _ => rfl, ?_, ?_, by simp, by simp⟩ <;> cases a <;> simp [Builtin.firstCells, loadCells, loadCellsFrom]
  · exact Src.ofSlice w hk ⟨b, off, none⟩ n cap news hl (fun j u hj => by rw [addr_add]; exact hr j u hj) h1

theorem SrcX.ofString (hi : P.info? e = some i) (hz : i.zero = some z) (h1 : i.size = 1) (hk : P.underlying tx = some .string) (s : ByteArray) : SrcX P e i z tx (.string s) s.size (byteCells s) w :=
  SrcX.ofSrc hi hz (by rw [h1]; exact Src.ofString w hk s)

theorem SrcX.ofMake (hi : P.info? e = some i) (hz : i.zero = some z) (hzs : z.cells.size = i.size) (hone : ∀ u ∈ z.cells.toList, u.oneCell' = true) {k : IntKind} (hk : P.underlying tx = some (.int k)) (hn : n ≤ maxLen) (hb : n * i.bytes ≤ 281474976710656) :
    SrcX P e i z tx (.int .i64 n) n (Builtin.zeroCells z.cells n).toList w := by
  have hw : IntKind.i64.wrap (n : Int) = n := by
    unfold maxLen at hn
    rw [IntKind.wrap_i64]; omega
  have hnn : ¬ ((n : Int) < 0) := by omega
  have hbb : ¬ ((281474976710656 : Int) < (n : Int) * (i.bytes : Int)) := by
    have : ((n * i.bytes : Nat) : Int) ≤ 281474976710656 := by omega
    simp only [Int.natCast_mul] at this
    omega
  have hsz : (Builtin.zeroCells z.cells n).toList.length = n * i.size := by rw [Array.length_toList, size_zeroCells, hzs]
  have hone' : ∀ u ∈ (Builtin.zeroCells z.cells n).toList, u.oneCell' = true := fun u hu => by
    simp only [Builtin.zeroCells] at hu
    simp at hu
    obtain ⟨j, hj, rfl⟩ := hu
    have hp : 0 < z.cells.size := Nat.pos_of_ne_zero fun e => by rw [e] at hj; omega
    have hm := Nat.mod_lt j hp
    have hh := hone (z.cells[j % z.cells.size]) (by simp)
    simpa [hm] using hh
  have hz0 : n * i.size = 0 → Builtin.zeroCells z.cells n = #[] := fun h0 => by
    apply Array.eq_empty_of_size_eq_zero
    rw [size_zeroCells, hzs]; exact h0
  refine ⟨hsz, hone', fun h0 t ty base sLen sCap ht hc => ?_, fun t ty g sLen sCap cur ht hg hroom hfit => ?_, fun t ty base sLen sCap olds ht hold hg h63 hfit => ?_⟩
  · subst h0
    have hw0 : IntKind.i64.wrap 0 = 0 := by simpa using hw
    cases base <;> simp [Builtin.append_, run_underlying ht, run_underlying hk, sizeOf, typeInfo, hi, hc, storeCells, asInt, asIntOf, hw0]
  · have hst := run_storeCells_at P g (sLen * i.size) e (Builtin.zeroCells z.cells n).toList 0 cur w hg (by simpa using hfit) hone'
    simp only [Nat.add_zero] at hst
    by_cases h0 : n * i.size = 0
    · rw [hz0 h0] at hst ⊢
      simp [Builtin.append_, run_underlying ht, run_underlying hk, sizeOf, typeInfo, hi, asInt, asIntOf, hw, hnn, hbb, hroom, Addr.add_lit, h0] at hst ⊢
      simp [hst]
    · simp [Builtin.append_, run_underlying ht, run_underlying hk, sizeOf, typeInfo, hi, asInt, asIntOf, hw, hnn, hbb, hroom, Addr.add_lit, h0, zeroValue, hz] at hst ⊢
      simp [hst]
  · have hg' : ¬ (sLen + n ≤ sCap) := by omega
    have h63' : ¬ (9223372036854775807 < ((sLen : Int) + (n : Int))) := by omega
    have h48' : ¬ (281474976710656 < Builtin.nextslicecap (sLen + n) sCap * i.bytes) := by omega
    by_cases h0 : n * i.size = 0
    · rw [hz0 h0]
      simp [Builtin.append_, run_underlying ht, run_underlying hk, sizeOf, typeInfo, hi, asInt, asIntOf, hw, hnn, hbb, hg', h63', h48', Question.forced, hold, zeroValue, hz, newRow, grownCap, h0]
    · simp [Builtin.append_, run_underlying ht, run_underlying hk, sizeOf, typeInfo, hi, asInt, asIntOf, hw, hnn, hbb, hg', h63', h48', Question.forced, hold, zeroValue, hz, newRow, grownCap, h0]
      congr 2
      apply Array.ext'
      simp

variable {W0 : World} {L : List HProp} {v : Value} {xs : List Value}

theorem St.appendX {t ty : TypeId} {m : Nat} (h : St W0 w (ownS e i.size v n xs :: L)) (hzs : z.cells.size = i.size) (ht : P.underlying t = some (.slice e)) (hs : SrcX P e i z tx x m news w)
    (h63 : n + m ≤ maxLen) (hbytes : (n + m) * i.bytes ≤ 140737488355328) :
    ∃ v' w', (Builtin.append_ #[t, tx] ty #[v, x]).run P w = .ok v' w' ∧ St W0 w' (ownS e i.size v' (n + m) (xs ++ news) :: L) := by
  obtain ⟨hl, hc⟩ := h.own_cases
  have hln := hs.newsLen
  have hsmall : n + m ≤ 9223372036854775807 := by simp only [maxLen] at h63; omega
  have hlen : (xs ++ news).length = (n + m) * i.size := by rw [List.length_append, hl, hln, Nat.add_mul]
  by_cases hm : m = 0
  · have hn : news = [] := List.eq_nil_of_length_eq_zero (by rw [hln, hm]; simp)
    refine ⟨v, w, ?_, by subst hm hn; simpa using h⟩
    rcases hc with ⟨⟨a', rfl⟩, rfl, rfl⟩ | ⟨b, cap, rest, rfl, h2, h3, h4, s⟩
    · exact hs.nothing hm t ty a' 0 0 ht (Nat.le_refl _)
    · exact hs.nothing hm t ty _ n cap ht h2
  · have hmp : 0 < m := Nat.pos_of_ne_zero hm
    have grown : ∀ (old : Nat), old < n + m → St W0 w L →
        St W0 (w.drew.alloc (.cells ((xs ++ news).toArray ++ Builtin.zeroCells z.cells (grownCap w (n + m) old e - (n + m))) e))
          (ownS e i.size (.slice (some ⟨w.heap.size, 0, none⟩) (n + m) (grownCap w (n + m) old e)) (n + m) (xs ++ news) :: L) := by
      intro old ho s
      have hge := grownCap_ge w (n + m) old e
      have hcm : grownCap w (n + m) old e ≤ maxLen := grownCap_le_maxLen w (n + m) old e h63
      have s2 := s.drew.allocC ((xs ++ news).toArray ++ Builtin.zeroCells z.cells (grownCap w (n + m) old e - (n + m))) e
      refine St.own_mk (rest := (Builtin.zeroCells z.cells (grownCap w (n + m) old e - (n + m))).toList) ?_ hlen hge hcm ?_
      · have e1 : (xs ++ news ++ (Builtin.zeroCells z.cells (grownCap w (n + m) old e - (n + m))).toList).toArray = (xs ++ news).toArray ++ Builtin.zeroCells z.cells (grownCap w (n + m) old e - (n + m)) := by
          apply Array.ext'; simp
        rw [e1]; exact s2
      · rw [hlen]
        simp only [Array.length_toList, size_zeroCells, hzs, ← Nat.add_mul]
        exact Nat.mul_le_mul_right _ (by omega)
    rcases hc with ⟨⟨a', rfl⟩, rfl, rfl⟩ | ⟨b, cap, rest, rfl, h2, h3, h4, s⟩
    · have hr := hs.grow t ty a' 0 0 [] ht (by cases a' <;> simp [Builtin.firstCells, loadCells, loadCellsFrom]) (by omega) (by omega) (growslice_fits (by omega) hbytes)
      exact ⟨_, _, hr, grown 0 (by omega) h.tail⟩
    · by_cases hroom : n + m ≤ cap
      · have hfit : n * i.size + news.length ≤ (xs ++ rest).toArray.size := by
          have := Nat.mul_le_mul_right i.size hroom
          rw [Nat.add_mul] at this
          simp; omega
        have hr := hs.room t ty b n cap (xs ++ rest).toArray ht s.heap hroom hfit
        refine ⟨_, _, hr, ?_⟩
        have s2 := s.setRow ((xs ++ rest).toArray.toList.take (n * i.size) ++ news ++ (xs ++ rest).toArray.toList.drop (n * i.size + news.length)).toArray
        refine St.own_mk (rest := rest.drop news.length) ?_ hlen hroom h3 ?_
        · have e1 : (xs ++ rest).toArray.toList.take (n * i.size) ++ news ++ (xs ++ rest).toArray.toList.drop (n * i.size + news.length) = xs ++ news ++ rest.drop news.length := by
            simp only [List.append_assoc]
            rw [← hl, List.take_left, List.drop_length_add_append]
          rw [e1] at s2
          rw [e1]; exact s2
        · have := Nat.mul_le_mul_right i.size hroom
          rw [Nat.add_mul] at this
          simp only [List.length_append, List.length_drop]; omega
      · have hf := run_firstCells_some (P := P) w.drew i.size n ⟨b, 0, none⟩ n cap xs hl (fun j u hj => by
          rw [addr_add, Nat.zero_add]
          have hb := s.drew.cell (b := b) j
          rw [hb]
          have := (List.getElem?_eq_some_iff.1 hj).1
          simpa [List.getElem?_append, this] using hj)
        have hr := hs.grow t ty (some ⟨b, 0, none⟩) n cap xs ht hf (by omega) (by omega) (growslice_fits (by omega) hbytes)
        exact ⟨_, _, hr, grown cap (by omega) s.tail⟩

theorem append_coreX {t ty : TypeId} {m : Nat} {us : List Value} {g : Frag} (hg : Le g (fun b => w.heap[b]?)) (ho : ownS e i.size v n us g)
    (ht : P.underlying t = some (.slice e)) (hzs : z.cells.size = i.size) (hs : SrcX P e i z tx x m news w)
    (h63 : n + m ≤ maxLen) (hbytes : (n + m) * i.bytes ≤ 140737488355328) :
    ∃ v' w', (Builtin.append_ #[t, tx] ty #[v, x]).run P w = .ok v' w' ∧ w'.os = w.os ∧ w'.tape = w.tape ∧ w'.output = w.output ∧
      (∃ f, ownS e i.size v' (n + m) (us ++ news) f ∧ Le f (fun b => w'.heap[b]?) ∧ ∀ b, f b ≠ none → g b ≠ none ∨ w.heap.size ≤ b) ∧ ∀ b, g b = none → b < w.heap.size → w'.heap[b]? = w.heap[b]? := by
  let W0 : World := { w with heap := #[] }
  let rest : Frag := fun b => if g b = none then w.heap[b]? else none
  have hnp : ∀ w' : World, newPart W0 w' = fun b => w'.heap[b]? := fun w' => by funext b; simp [newPart, W0]
  have hrest : Le rest (fun b => w.heap[b]?) := fun b ob e => by
    simp only [rest] at e
    split at e
    · exact e
    · cases e
  have hdis : Disj g rest := fun b => by
    by_cases q : g b = none
    · exact .inl q
    · right; simp [rest, q]
  have st : St W0 w [ownS e i.size v n us, fun f => f = rest] := by
    refine ⟨rfl, rfl, rfl, Nat.zero_le _, fun k hk => absurd hk (Nat.not_lt_zero _), ?_⟩
    rw [hnp]
    exact ⟨g, rest, ho, ⟨rest, fun _ => none, rfl, trivial, fun b => .inr rfl, Le.refl _, (fun b o e => by cases e)⟩, hdis, hg, hrest⟩
  obtain ⟨v', w', hr, h2⟩ := st.appendX (ty := ty) hzs ht hs h63 hbytes
  refine ⟨v', w', hr, h2.os, h2.tape, h2.output, ?_⟩
  have hsep := h2.sep
  rw [hnp] at hsep
  obtain ⟨f, f2, p, ⟨f3, f4, p3, _, _, l3, _⟩, d1, l1, l2⟩ := hsep
  subst p3
  have hle : Le rest (fun b => w'.heap[b]?) := l3.trans l2
  have hfd : Disj f rest := d1.le (Le.refl _) l3
  refine ⟨⟨f, p, l1, fun b hb => ?_⟩, fun b hb hlt => ?_⟩
  · by_cases q : g b = none
    · right
      have := (hfd b).resolve_left hb
      simp only [rest, q, if_true] at this
      exact Nat.le_of_not_lt fun hlt => by rw [Array.getElem?_eq_getElem hlt] at this; cases this
    · exact .inl q
  · have hs := Array.getElem?_eq_getElem hlt
    rw [hs]
    exact hle b _ (by simp only [rest, hb, if_true]; exact hs)
end

section
variable {P : Program} {T : Tab} {nt : Nat} {fr : Fr} {σ : List AObj} {o : Oper} {next : Fr → List AObj → Prop}

/-- What an operand gives to an append: rows. -/
def SrcOk (P : Program) (fr : Fr) (σ : List AObj) (U tx : TypeId) (sz : Nat) (b : Operand) (rows2 : List (List DV)) : Prop :=
  ∀ k x nt A w (i : TypeInfo) (z : Value), Sim k x nt fr σ A w → P.info? U = some i → i.zero = some z → i.size = sz → ∃ us, SrcX P U i z tx (A.eval b) rows2.length us w ∧ FRep x.F sz rows2 us

theorem do_appendX (hT : okTab P T = true) {t tx sz bytes loc ver : Nat} {agg : Bool} {a b : Operand} {U : TypeId} {rows rows2 : List (List DV)} {n : Nat} (ho : o.op = .call { callee := .builtin .append, args := #[a, b], argTypes := #[t, tx] }) (ht : dstOk o.dst nt = true)
    (hs : find1 T.sl t = some U) (he : find1 T.ty U = some (sz, bytes, agg)) {z : List Value} (hz : ZIs P U z) (hzl : Nat.beq z.length sz = true) (ha : aget fr a = .own loc ver sz 0 n) (hl : σ[loc]? = some (.arr U sz ver rows)) (hn : n = rows.length) (hb : SrcOk P fr σ U tx sz b rows2)
    (h63 : rows.length + rows2.length ≤ maxLen) (hbytes : (rows.length + rows2.length) * bytes ≤ 140737488355328)
    (hnx : next (fput o.dst (.own loc (ver + 1) sz 0 (rows.length + rows2.length)) fr) (σ.set loc (.arr U sz (ver + 1) (rows ++ rows2)))) : DoOp P nt o fr σ false next := by
  refine do_value ht (fun v σ' => v = .own loc (ver + 1) sz 0 (rows.length + rows2.length) ∧ σ' = σ.set loc (.arr U sz (ver + 1) (rows ++ rows2))) (fun v σ' ⟨a, b⟩ => a ▸ b ▸ hnx) fun k x A w s => ?_
  have hzl := Nat.eq_of_beq_eq_true hzl
  have hty := T.tyIs hT he
  have hra := s.arg a
  rw [ha] at hra
  obtain ⟨i, d, e1, e2, e3, e4, e5⟩ := hty.ex
  obtain ⟨i', zv, z1, z2, z3⟩ := hz.ex
  rw [e1] at z1
  injection z1 with z1
  subst z1
  have hzs : zv.cells.size = i.size := by rw [e3, ← hzl, ← z3]; simp
  obtain ⟨news, hx, hf2⟩ := hb k x nt A w i zv s e1 z2 e3
  have h1 := hx.one
  subst e3
  subst e4
  obtain ⟨g, g1, g2, g3, g4⟩ := s.heap.own
  have core : ∀ g0, ORep x (x.env loc) (.arr U i.size ver rows) g0 → Le g0 (fun b => w.heap[b]?) → ∃ us v' w', FRep x.F i.size rows us ∧ (∀ u ∈ us, u.oneCell' = true) ∧ (Builtin.append_ #[t, tx] o.type #[A.eval a, A.eval b]).run P w = .ok v' w' ∧ w'.os = w.os ∧ w'.tape = w.tape ∧ w'.output = w.output ∧
      (∃ f, ownS U i.size v' (n + rows2.length) (us ++ news) f ∧ Le f (fun b => w'.heap[b]?) ∧ ∀ b, f b ≠ none → g0 b ≠ none ∨ w.heap.size ≤ b) ∧ ∀ b, g0 b = none → b < w.heap.size → w'.heap[b]? = w.heap[b]? := fun g0 hg0 hle => by
    obtain ⟨us, f1, f2, f3⟩ := arr_own hg0 hn hra
    obtain ⟨v', w', c⟩ := append_coreX (ty := o.type) hle f3 (T.slIs hT hs) hzs hx (by rw [hn]; exact h63) (by rw [hn]; exact hbytes)
    exact ⟨us, v', w', f1, f2, c⟩
  obtain ⟨us, v', w', f1, f2, hrun, c1, c2, c3, ⟨f, p, p1, p2⟩, c5⟩ := core (g loc) (g1 loc _ hl) (g2 loc)
  have hlen : n + rows2.length = (rows ++ rows2).length := by rw [hn]; simp
  have one : ∀ u ∈ us ++ news, u.oneCell' = true := fun u hu => (List.mem_append.1 hu).elim (f2 u) (h1 u)
  obtain ⟨_, ad, cap, ev, hcap, hlv, hdd, hver⟩ := own_arr (x := x) (ver := ver + 1) (f1.append hf2) one hlen p
  have hev : (x.env loc).ver = ver := (g1 loc _ hl).1
  have hxe : CtxExt x (x.upd loc (slotOf v' (ver + 1))) := Ctx.upd_ext (by rw [hver]; omega) fun q => by omega
  have hslot : (x.upd loc (slotOf v' (ver + 1))).env loc = slotOf v' (ver + 1) := by simp [Ctx.upd]
  refine ⟨v', w', _, _, _, ?_, hxe, ?_, s.heap.upd hl hxe (o' := .arr U i.size (ver + 1) (rows ++ rows2)) fun g0 hg0 hle => ?_, ⟨c1.trans s.calm.os, c2.trans s.calm.tape, c3.trans s.calm.output⟩, (fun h => by cases h), rfl, rfl⟩
  · unfold execOp
    simp [ho, resolve, invoke, builtin, hrun]
  · refine ⟨hra.1, by rw [hslot, hver]; exact Nat.le_refl _, ad, cap, by rw [ev, hn], fun _ => ⟨by rw [← hn]; exact hcap, fun q => ?_, fun q => hdd (hslot ▸ q)⟩⟩
    rw [hslot] at q ⊢
    obtain ⟨q1, q2⟩ := hlv q
    rw [q1, q2]
    simp
  · obtain ⟨us', v2, w2, f1', f2', hrun', _, _, _, ⟨f', p', p1', p2'⟩, c5'⟩ := core g0 hg0 hle
    rw [hrun] at hrun'
    injection hrun' with e1 e2
    subst e1 e2
    have one' : ∀ u ∈ us' ++ news, u.oneCell' = true := fun u hu => (List.mem_append.1 hu).elim (f2' u) (h1 u)
    obtain ⟨q, _⟩ := own_arr (x := x) (ver := ver + 1) (f1'.append hf2) one' hlen p'
    exact ⟨⟨f', q.ext hxe, p1', p2'⟩, c5'⟩

/-- What an operand's rows are, to be read. -/
def RowsOk (fr : Fr) (σ : List AObj) (sz : Nat) (b : Operand) (rows2 : List (List DV)) : Prop :=
  ∀ k x nt A w, Sim k x nt fr σ A w → ∃ us, rd w sz (A.eval b) rows2.length us ∧ FRep x.F sz rows2 us ∧ ∀ u ∈ us, u.oneCell' = true

/-! What may be appended. -/
theorem src_of {U t sz : Nat} {b : Operand} {rows2 : List (List DV)} (ht : P.underlying t = some (.slice U)) (h : RowsOk fr σ sz b rows2) : SrcOk P fr σ U t sz b rows2 := by
  intro k x nt A w i z s hi hz hsz
  obtain ⟨us, hx, hf, h1⟩ := h k x nt A w s
  subst hsz
  exact ⟨us, SrcX.ofRd hi hz ht hx h1, hf⟩
theorem rows_d {sz : Nat} {b : Operand} {rows2 : List (List DV)} (h : srcRows sz (aget fr b) = some rows2) : RowsOk fr σ sz b rows2 :=
  fun k x nt A w s => src_rd s.heap.hF (s.arg b) h

/-- An owned slice. -/
theorem rows_own {sz : Nat} {b : Operand} {loc2 ver2 off2 n2 : Nat} {rows rows2 : List (List DV)} {V : TypeId} (hb : aget fr b = .own loc2 ver2 sz off2 n2) (hl : σ[loc2]? = some (.arr V sz ver2 rows)) (h : (rows.drop off2).take n2 = rows2) (hn : off2 + n2 ≤ rows.length) : RowsOk fr σ sz b rows2 := by
  intro k x nt A w s
  obtain ⟨g, g1, g2, g3, g4⟩ := s.heap.own
  have hb' := s.arg b
  rw [hb] at hb'
  have hd := asD_rep (σ := σ) (d := .lst sz ((rows.drop off2).take n2)) hb' ⟨rfl, V, rows, hl, rfl, hn⟩ hl (g1 loc2 _ hl) (g4 loc2).1
  rw [h] at hd
  have hle : Le (Un x.F (g loc2)) (fun b => w.heap[b]?) := Le.un s.heap.hF (g2 loc2)
  have hd' : ARep ⟨Un x.F (g loc2), x.env, x.n⟩ (.d (.lst sz rows2)) (A.eval b) := hd
  obtain ⟨us, hx, hf, h1⟩ := src_rd (x := ⟨Un x.F (g loc2), x.env, x.n⟩) (sz := sz) (rows := rows2) hle hd' (by simp [srcRows])
  refine ⟨us, hx, ?_, h1⟩
  -- the cells, over what was frozen before
  obtain ⟨hl1, _, ad, cap', e, hq⟩ := hb'
  have ho := g1 loc2 _ hl
  obtain ⟨hv, ho⟩ := ho
  obtain ⟨q1, q2, q3⟩ := hq hv.symm
  rcases ho with ⟨hlive, rfl⟩ | ⟨hlive, us0, rest, hb0, hf0, h10, _⟩
  · have : rows2 = [] := by rw [← h]; simp
    subst this
    exact (List.eq_nil_of_length_eq_zero (by rw [hx.1]; simp))
  · have h2 := (hf0.drop off2).take n2
    rw [h] at h2
    have e2 : us = (us0.drop (off2 * sz)).take (n2 * sz) := by
      obtain ⟨q4, q5⟩ := q2 hlive
      have hl2 := h2.len
      obtain ⟨hlx, hx⟩ := hx
      apply List.ext_getElem?
      intro j
      by_cases hj : j < us.length
      · rcases hx with ⟨_, h0⟩ | ⟨b2, off, cap2, e3, _, _, hr⟩
        · rw [hlx, h0] at hj; omega
        · rw [e3] at e
          injection e with e4 _ _
          rw [q4] at e4
          injection e4 with e4
          injection e4 with e5 e6 _
          have h3 := hr j _ (List.getElem?_eq_getElem hj)
          rw [List.getElem?_eq_getElem hj, ← h3, e5, e6]
          have hc := g2 loc2 _ _ hb0
          have hc : w.heap[(x.env loc2).blk]? = _ := hc
          rw [cell_of_row w _ _ _ _ _ hc]
          have hj2 : j < ((us0.drop (off2 * sz)).take (n2 * sz)).length := by rw [hl2, ← hlx]; exact hj
          simp only [List.length_take, List.length_drop] at hj2
          rw [List.getElem?_take, if_pos (by omega), List.getElem?_drop, List.getElem?_toArray, List.getElem?_append_left (by omega)]
      · rw [List.getElem?_eq_none (by omega), List.getElem?_eq_none (by rw [hl2, ← hlx]; omega)]
    rw [e2]
    exact h2

/-- A string's bytes. -/
def byteD (b : UInt8) : List DV := [.v (.int .u8 (b.toNat : Int))]
def bytesD (l : List UInt8) : List (List DV) := l.map byteD

theorem frep_bytes {F : Frag} : ∀ l : List UInt8, FRep F 1 (bytesD l) (l.map fun b => .int .u8 (b.toNat : Int))
  | [] => rfl
  | b :: l => ⟨[.int .u8 (b.toNat : Int)], _, rfl, rfl, ⟨_, _, rfl, ⟨rfl, rfl⟩, rfl⟩, frep_bytes l⟩

theorem src_string {U tx : Nat} {b : Operand} {s : ByteArray} (hu : P.underlying tx = some .string) (h : aget fr b = .d (.v (.string s))) : SrcOk P fr σ U tx 1 b (bytesD s.data.toList) := by
  intro k x nt A w i z hs hi hz hsz
  have h1 := hs.arg b
  rw [h] at h1
  obtain ⟨e, _⟩ := h1
  refine ⟨byteCells s, ?_, frep_bytes _⟩
  have : (bytesD s.data.toList).length = s.size := by simp [bytesD]
  rw [e, this]
  exact SrcX.ofString hi hz hsz hu s

theorem frep_zeros {F : Frag} {zs : List Value} {sz : Nat} (hl : zs.length = sz) (ho : zs.all (·.oneCell') = true) : ∀ n : Nat, FRep F sz (List.replicate n (zs.map .v)) (List.replicate n zs).flatten
  | 0 => rfl
  | n + 1 => by
    refine ⟨zs, (List.replicate n zs).flatten, by simp [List.replicate_succ], by simpa using hl, ?_, frep_zeros hl ho n⟩
    clear hl
    induction zs with
    | nil => rfl
    | cons a l ihl =>
      simp only [List.all_cons, Bool.and_eq_true] at ho
      exact ⟨a, l, rfl, ⟨rfl, ho.1⟩, ihl ho.2⟩

/-- Zeros. -/
theorem src_make {U tx sz : Nat} {b : Operand} {k' : IntKind} {n : Nat} {zs : List Value} (hZ : ZIs P U zs) (hzl : Nat.beq zs.length sz = true) (hu : P.underlying tx = some (.int k')) (h : aget fr b = .d (.v (.int .i64 (n : Int)))) (hn : n ≤ 1099511627776) {bytes : Nat} {agg : Bool} (hty : TyIs P U sz bytes agg) (hby : Nat.ble bytes 128 = true) :
    SrcOk P fr σ U tx sz b (List.replicate n (zs.map .v)) := by
  intro k x nt A w i z hs hi hz hsz
  have h1 := hs.arg b
  rw [h] at h1
  obtain ⟨e, _⟩ := h1
  obtain ⟨i', z', z1, z2, z3⟩ := hZ.ex
  rw [hi] at z1
  injection z1 with z1
  subst z1
  rw [hz] at z2
  injection z2 with z2
  subst z2
  obtain ⟨i2, d, e1, e2, e3, e4, e5⟩ := hty.ex
  rw [hi] at e1
  injection e1 with e1
  subst e1
  have hzl := Nat.eq_of_beq_eq_true hzl
  have hzs : z.cells.size = i.size := by rw [hsz, ← hzl, ← z3]; simp
  have hone : ∀ u ∈ z.cells.toList, u.oneCell' = true := fun u hu => by
    rw [z3] at hu
    exact (List.all_eq_true.1 hZ.one) u hu
  refine ⟨(Builtin.zeroCells z.cells n).toList, ?_, ?_⟩
  · rw [e, List.length_replicate]
    refine SrcX.ofMake hi hz hzs hone hu (by unfold maxLen; omega) ?_
    have := Nat.le_of_ble_eq_true hby
    rw [e4]
    exact Nat.le_trans (Nat.mul_le_mul hn this) (by omega)
  · subst hsz
    have hfl : (Builtin.zeroCells z.cells n).toList = (List.replicate n zs).flatten := by
      apply List.ext_getElem?
      intro j
      have hl1 : (Builtin.zeroCells z.cells n).toList.length = n * zs.length := by rw [Array.length_toList, size_zeroCells, hzs, hzl]
      have hl2 : (List.replicate n zs).flatten.length = n * zs.length := by simp
      by_cases hj : j < n * zs.length
      · have hp : 0 < zs.length := Nat.pos_of_ne_zero fun e => by rw [e] at hj; omega
        have hd : j / zs.length < n := Nat.div_lt_of_lt_mul (by rw [Nat.mul_comm]; exact hj)
        have e1 : j = j / zs.length * zs.length + j % zs.length := by rw [Nat.mul_comm]; exact (Nat.div_add_mod j zs.length).symm
        have hg : (List.replicate n zs).flatten[j]? = zs[j % zs.length]? := by
          have := flatten_get' (List.replicate n zs) (c := zs.length) (fun r hr => by rw [List.eq_of_mem_replicate hr]) (j / zs.length) (j % zs.length) (Nat.mod_lt _ hp)
          rw [← e1] at this
          rw [this]
          simp [hd]
        rw [hg]
        have hz4 : z.cells.size = zs.length := by rw [hzs, hzl]
        have hm : j % zs.length < zs.length := Nat.mod_lt _ hp
        rw [← z3]
        simp only [Builtin.zeroCells, Array.toList_map, Array.toList_range, List.getElem?_map]
        rw [hz4, List.getElem?_range (by exact hj)]
        simp only [Option.map_some]
        have h5 : j % zs.length < z.cells.size := by omega
        rw [getElem!_pos z.cells _ h5]
        have h6 : j % z.cells.size = j % zs.length := by rw [hz4]
        simp only [Array.length_toList, h6]
        rw [Array.getElem?_toList, Array.getElem?_eq_getElem h5]
      · rw [List.getElem?_eq_none (by omega), List.getElem?_eq_none (by omega)]
    rw [hfl]
    exact frep_zeros (by rw [hzl]) hZ.one n
where
  flatten_get' {c : Nat} : ∀ (rows : List (List Value)) (_ : ∀ r ∈ rows, r.length = c) (i j : Nat), j < c → rows.flatten[i * c + j]? = (rows[i]?).bind (·[j]?)
    | [], _, i, j, _ => by simp
    | r :: rows, h, 0, j, hj => by
      have := h r (by simp)
      simp only [List.flatten_cons, Nat.zero_mul, Nat.zero_add, List.getElem?_cons_zero, Option.bind_some]
      rw [List.getElem?_append_left (by omega)]
    | r :: rows, h, i + 1, j, hj => by
      have hr := h r (by simp)
      simp only [List.flatten_cons, List.getElem?_cons_succ]
      rw [List.getElem?_append_right (by rw [hr, Nat.add_mul]; omega), hr, show (i + 1) * c + j - c = i * c + j by rw [Nat.add_mul]; omega]
      exact flatten_get' rows (fun r hr => h r (by simp [hr])) i j hj
end
end Go.Proofs.Ytciciaikajdenaa

/- More steps: append of strings, zeros and owned slices; parts of owned slices; strings' bytes and parts; bytes as a string; an empty literal. -/
namespace Go.Proofs.Ytciciaikajdenaa
open Go.RowKit

section
variable {P : Program} {T : Tab} {fr : Fr} {σ : List AObj} {o : Oper}

/-- What stands for an owned slice, as it is now. -/
theorem own_now {k : K0} {x : Ctx} {nt : Nat} {A : Act} {w : World} (s : Sim k x nt fr σ A w) {loc ver sz off len : Nat} {U : TypeId} {rows : List (List DV)} {u : Value} (hl : σ[loc]? = some (.arr U sz ver rows)) (h : ARep x (.own loc ver sz off len) u) :
    ∃ ad cap, u = .slice ad len cap ∧ len ≤ cap ∧ ((x.env loc).live = true → ad = some ⟨(x.env loc).blk, off * sz, none⟩ ∧ off + cap ≤ (x.env loc).cap) ∧ ((x.env loc).live = false → cap = 0) ∧ loc < x.n ∧ ver = (x.env loc).ver := by
  obtain ⟨g, g1, _⟩ := s.heap.own
  obtain ⟨hv2, _⟩ := g1 loc _ hl
  obtain ⟨hl1, hv, ad, cap, e1, hq⟩ := h
  obtain ⟨q1, q2, q3⟩ := hq hv2.symm
  exact ⟨ad, cap, e1, q1, q2, q3, hl1, hv2.symm⟩

/-- A part of an owned slice. -/
theorem rd_slice_own (hT : okTab P T = true) {t e sz bytes loc ver off len : Nat} {agg : Bool} {a : Operand} {lo hi : Option Operand} {l h : Option Int} {U : TypeId} {rows : List (List DV)} (ho : o.op = .slice t a lo hi none) (ht : find1 T.sl t = some e) (he : find1 T.ty e = some (sz, bytes, agg))
    (ha : aget fr a = .own loc ver sz off len) (hs : σ[loc]? = some (.arr U sz ver rows)) (hl : bndA fr lo = some l) (hh : bndA fr hi = some h) (h0 : 0 ≤ l.getD 0) (h1 : l.getD 0 ≤ h.getD len) (h2 : h.getD len ≤ len) (h3 : l.getD 0 = 0 ∨ l.getD 0 < len) :
    RdOp P o fr σ (.own loc ver sz (off + (l.getD 0).toNat) ((h.getD len).toNat - (l.getD 0).toNat)) := by
  intro k x nt A w s
  have r := s.arg a
  rw [ha] at r
  obtain ⟨ad, cap, e1, hcap, q2, q3, hl1, hver⟩ := own_now s hs r
  refine ⟨sliced ad (l.getD 0).toNat (h.getD len).toNat cap sz, ?_, fun w' _ => ?_⟩
  · unfold sliced
    refine ⟨hl1, Nat.le_of_eq hver, if cap = (l.getD 0).toNat then ad else ad.map (·.add ((l.getD 0).toNat * sz)), cap - (l.getD 0).toNat, rfl, fun _ => ⟨by omega, fun hlive => ?_, fun hlive => by have := q3 hlive; omega⟩⟩
    obtain ⟨q4, q5⟩ := q2 hlive
    subst q4
    by_cases hz : cap = (l.getD 0).toNat
    · rw [if_pos hz]
      have h4 : (l.getD 0).toNat = 0 := by omega
      rw [h4, Nat.add_zero]
      exact ⟨rfl, by omega⟩
    · rw [if_neg hz]
      refine ⟨?_, by omega⟩
      simp [Addr.add_mk, Nat.add_mul]
  · have hE : P.elem t = e := by simp [Program.elem, T.slIs hT ht]
    have ht2 : P.underlying t = some (.slice (P.elem t)) := by rw [hE]; exact T.slIs hT ht
    have hz := (T.tyIs hT he).size_run w'
    unfold execOp
    simp only [ho, e1]
    rcases bnd_run s hl with ⟨rfl, b1⟩ | ⟨ln, lk, rfl, b1⟩ <;> rcases bnd_run s hh with ⟨rfl, b2⟩ | ⟨hn, hk, rfl, b2⟩ <;> simp only [b1, b2, Option.map_none, Option.getD_none, Option.getD_some] at h0 h1 h2 ⊢
    · simp [run_sliceAt_slice w' t _ none none none ht2, run_slice_all w' t ad len cap ht2, hE, hz, Result.andThen]
    · simp [run_sliceAt_slice w' t _ none _ none ht2, run_slice_h w' t ad len cap ht2 hk hn (by omega) (by omega), hE, hz, Result.andThen]
    · simp [run_sliceAt_slice w' t _ _ none none ht2, run_slice_l w' t ad len cap ht2 lk ln (by omega) (by omega), hE, hz, Result.andThen]
    · simp [run_sliceAt_slice w' t _ _ _ none ht2, run_slice_lh w' t ad len cap ht2 lk hk ln hn (by omega) (by omega) (by omega), hE, hz, Result.andThen]

/-- A string's byte. -/
theorem rd_index_str {t : TypeId} {a b : Operand} {s : ByteArray} {k : IntKind} {i : Nat} {y : UInt8} (ho : o.op = .index t a b) (ht : P.underlying t = some .string) (ha : aget fr a = .d (.v (.string s))) (hb : aget fr b = .d (.v (.int k (i : Int)))) (hy : s.data.toList[i]? = some y) :
    RdOp P o fr σ (.d (.v (.int .u8 (y.toNat : Int)))) := by
  intro x c nt A w h
  have h1 := h.arg a
  have h2 := h.arg b
  rw [ha] at h1
  rw [hb] at h2
  obtain ⟨e1, _⟩ := h1
  obtain ⟨e2, _⟩ := h2
  refine ⟨_, ⟨rfl, rfl⟩, fun w' _ => ?_⟩
  have hlt : i < s.size := by
    have := (List.getElem?_eq_some_iff.1 hy).1
    rw [Array.length_toList] at this
    exact this
  have hg : s[i] = y := by
    have := (List.getElem?_eq_some_iff.1 hy).2
    rw [Array.getElem_toList] at this
    exact this
  unfold execOp
  have hin : (0 : Int) ≤ i ∧ (i : Int) < s.size := by omega
  simp [ho, e1, e2, run_index_string w' t s k i ht, hlt, hg]

/-- A part of a string. -/
theorem rd_slice_str {t : TypeId} {a : Operand} {lo hi : Option Operand} {s : ByteArray} {l h : Option Int} (ho : o.op = .slice t a lo hi none) (ht : P.underlying t = some .string) (ha : aget fr a = .d (.v (.string s))) (hl : bndA fr lo = some l) (hh : bndA fr hi = some h)
    (h0 : 0 ≤ l.getD 0) (h1 : l.getD 0 ≤ h.getD s.size) (h2 : h.getD s.size ≤ s.size) : RdOp P o fr σ (.d (.v (.string (s.extract (l.getD 0).toNat (h.getD s.size).toNat)))) := by
  intro k x nt A w st
  have r := st.arg a
  rw [ha] at r
  obtain ⟨e1, _⟩ := r
  refine ⟨_, ⟨rfl, rfl⟩, fun w' _ => ?_⟩
  unfold execOp
  simp only [ho, e1]
  rcases bnd_run st hl with ⟨rfl, b1⟩ | ⟨ln, lk, rfl, b1⟩ <;> rcases bnd_run st hh with ⟨rfl, b2⟩ | ⟨hn, hk, rfl, b2⟩ <;> simp only [b1, b2, Option.map_none, Option.getD_none, Option.getD_some] at h0 h1 h2 ⊢
  · simp [run_sliceAt_string w' t _ none none none ht, Go.run_slice_string_all w' t s ht, Result.andThen]
  · simp [run_sliceAt_string w' t _ none _ none ht, run_slice_string_h w' t s ht hk hn (by omega) (by omega), Result.andThen]
  · simp [run_sliceAt_string w' t _ _ none none ht, run_slice_string_l w' t s ht lk ln (by omega) (by omega), Result.andThen]
  · simp [run_sliceAt_string w' t _ _ _ none ht, run_slice_string w' t s lk hk ln hn ht (by omega) (by omega) (by omega), Result.andThen]

theorem bytes_of_rows {F : Frag} : ∀ {l : List UInt8} {us : List Value}, FRep F 1 (bytesD l) us → us = l.map fun b => .int .u8 (b.toNat : Int)
  | [], _, h => h
  | b :: l, _, ⟨u, us', e, hl, ⟨v, vs, e2, r, q⟩, h⟩ => by
    have q : vs = [] := q
    obtain ⟨rfl, _⟩ := r
    subst e q e2
    rw [bytes_of_rows h]; rfl

/-- Bytes, as a string. -/
theorem rd_conv_bytes {t t' U : TypeId} {a : Operand} {rows : List (List DV)} {l : List UInt8} (ho : o.op = .convert t t' a) (ht : P.underlying t = some (.slice U)) (hu : P.underlying U = some (.int .u8)) (hd : P.underlying t' = some .string)
    (h : RowsOk fr σ 1 a rows) (hr : rows = bytesD l) : RdOp P o fr σ (.d (.v (.string ⟨l.toArray⟩))) := by
  intro k x nt A w s
  subst hr
  obtain ⟨us, ⟨hl, hx⟩, hf, h1⟩ := h k x nt A w s
  have e := bytes_of_rows hf
  have hlen : (bytesD l).length = l.length := by simp [bytesD]
  rw [hlen] at hx
  refine ⟨_, ⟨rfl, rfl⟩, fun w' ag => ?_⟩
  have ag := ag.resolve_left (by rw [ho]; exact Bool.false_ne_true)
  unfold execOp
  simp only [ho]
  rcases hx with ⟨⟨ad, c, e1⟩, h0⟩ | ⟨b, off, cap, e1, hc, hb, hr⟩
  · have : l = [] := List.eq_nil_of_length_eq_zero h0
    subst this
    rw [e1]
    cases ad with
    | none => simp [convert, run_underlying ht, run_underlying hd, run_underlying hu, Conv.bytesToString]; rfl
    | some ad =>
      have := run_convert_bytes_back (P := P) w' t t' U ad c [] ht hu hd (fun j hj => by simp at hj)
      have this : (convert t t' (.slice (some ad) 0 c)).run P w' = .ok (.string ⟨([] : List UInt8).toArray⟩) w' := this
      simp [this]
  · rw [e1]
    have hcell : ∀ j (hj : j < l.length), w'.cell? ((⟨b, off, none⟩ : Addr).add j) = some (.int .u8 (l[j].toNat : Int)) := fun j hj => by
      rw [addr_add]
      have h2 := hr j (.int .u8 (l[j].toNat : Int)) (by rw [e]; simp [hj])
      have h3 : b < w.heap.size := hb (by rw [e]; simp; omega)
      unfold World.cell? at h2 ⊢
      have := ag b h3
      simp only at h2 ⊢
      rw [this]; exact h2
    have := run_convert_bytes_back (P := P) w' t t' U ⟨b, off, none⟩ cap l ht hu hd hcell
    simp [this]
end

section
variable {P : Program} {T : Tab} {Z : TabZ} {nt : Nat} {Q : Exit → Fr → List AObj → Prop} {next : Fr → List AObj → Prop} {fr : Fr} {σ σ' : List AObj} {ops : Array Oper} {dr : Bool} {dos ends : List Nat} {l : Trr} {i d : Nat} {o : Oper} {v : AV}
variable {dst : Option Tmp} {op : Op} {ty : TypeId} {pos : String} {aft : Array Edge} {gd : Option (Nat × Bool)}

theorem s_sliceO (hT : okTab P T = true) {t e sz bytes loc ver off len : Nat} {agg : Bool} {a : Operand} {lo hi : Option Operand} {lw hg2 : Option Int} {U : TypeId} {rows : List (List DV)} (hp : dr = dr) (hg : guardB ops fr gd = some true) (ht : Nat.blt d nt = true) (ha : aget fr a = .own loc ver sz off len) (hs : find1 T.sl t = some e) (he : find1 T.ty e = some (sz, bytes, agg)) (ho : σ[loc]? = some (.arr U sz ver rows)) (hl : bndA fr lo = some lw) (hh : bndA fr hi = some hg2) (h3 : 0 ≤ lw.getD 0 ∧ lw.getD 0 ≤ hg2.getD len ∧ hg2.getD len ≤ len ∧ (lw.getD 0 = 0 ∨ lw.getD 0 < len)) (h : AL P nt ops dr dos ends l Q ((d, .own loc ver sz (off + (lw.getD 0).toNat) ((hg2.getD len).toNat - (lw.getD 0).toNat)) :: fr) σ) : ALo P nt ops dr dos ends i ⟨some d, .slice t a lo hi none, ty, pos, aft, gd⟩ l Q fr σ :=
  ⟨fun hh0 => s_read hh0 hp hg ht (rd_slice_own hT rfl hs he ha ho hl hh h3.1 h3.2.1 h3.2.2.1 h3.2.2.2) h⟩
theorem s_idxS {t : TypeId} {a b : Operand} {s : ByteArray} {k : IntKind} {j : Nat} {y : UInt8} (hy : P.underlying t = some .string) (hp : dr = dr) (hg : guardB ops fr gd = some true) (ht : Nat.blt d nt = true) (ha : aget fr a = .d (.v (.string s))) (hb : aget fr b = .d (.v (.int k (j : Int)))) (hr : s.data.toList[j]? = some y) (h : AL P nt ops dr dos ends l Q ((d, .d (.v (.int .u8 (y.toNat : Int)))) :: fr) σ) : ALo P nt ops dr dos ends i ⟨some d, .index t a b, ty, pos, aft, gd⟩ l Q fr σ :=
  ⟨fun ho => s_read ho hp hg ht (rd_index_str rfl hy ha hb hr) h⟩
theorem s_sliceS {t : TypeId} {a : Operand} {lo hi : Option Operand} {s : ByteArray} {lw hg2 : Option Int} (hy : P.underlying t = some .string) (hp : dr = dr) (hg : guardB ops fr gd = some true) (ht : Nat.blt d nt = true) (ha : aget fr a = .d (.v (.string s))) (hl : bndA fr lo = some lw) (hh : bndA fr hi = some hg2) (h3 : 0 ≤ lw.getD 0 ∧ lw.getD 0 ≤ hg2.getD s.size ∧ hg2.getD s.size ≤ s.size) (h : AL P nt ops dr dos ends l Q ((d, .d (.v (.string (s.extract (lw.getD 0).toNat (hg2.getD s.size).toNat)))) :: fr) σ) : ALo P nt ops dr dos ends i ⟨some d, .slice t a lo hi none, ty, pos, aft, gd⟩ l Q fr σ :=
  ⟨fun ho => s_read ho hp hg ht (rd_slice_str rfl hy ha hl hh h3.1 h3.2.1 h3.2.2) h⟩
theorem s_convB {t t' U : TypeId} {a : Operand} {rows : List (List DV)} {bs : List UInt8} (h1 : P.underlying t = some (.slice U)) (hu : P.underlying U = some (.int .u8)) (hd : P.underlying t' = some .string) (hp : dr = dr) (hg : guardB ops fr gd = some true) (ht : Nat.blt d nt = true) (hr : RowsOk fr σ 1 a rows) (hb : rows = bytesD bs) (h : AL P nt ops dr dos ends l Q ((d, .d (.v (.string ⟨bs.toArray⟩))) :: fr) σ) : ALo P nt ops dr dos ends i ⟨some d, .convert t t' a, ty, pos, aft, gd⟩ l Q fr σ :=
  ⟨fun ho => s_read ho hp hg ht (rd_conv_bytes rfl h1 hu hd hr hb) h⟩

/-- append, of whatever. -/
theorem s_appX (hT : okTab P T = true) (hZ : okTabZ P Z = true) {t tx sz bytes loc ver : Nat} {agg : Bool} {a b : Operand} {U : TypeId} {rows rows2 : List (List DV)} {n : Nat} {z : List Value} (hp : (dr && !dos.contains i) = false) (hg : guardB ops fr gd = some true) (hk : (dr && !ends.contains i && !false) = false) (ht : Nat.blt d nt = true) (ha : aget fr a = .own loc ver sz 0 n) (hs : find1 T.sl t = some U) (he : find1 T.ty U = some (sz, bytes, agg)) (hz : find1 Z.zs U = some z) (hzl : Nat.beq z.length sz = true) (hl : σ[loc]? = some (.arr U sz ver rows)) (hby : Nat.ble bytes 256 = true) (hb : SrcOk P fr σ U tx sz b rows2) (hσ : seqL (σ.set loc (.arr U sz (ver + 1) (rows ++ rows2))) some = some σ') (hn : n = rows.length ∧ n + rows2.length ≤ 549755813888) (h : AL P nt ops dr dos ends l Q ((d, .own loc (ver + 1) sz 0 (n + rows2.length)) :: fr) σ') : ALo P nt ops dr dos ends i ⟨some d, .call { callee := .builtin .append, args := #[a, b], argTypes := #[t, tx] }, ty, pos, aft, gd⟩ l Q fr σ := by
  refine ⟨fun ho => s_do (keep := false) ho hp hg hk ?_⟩
  obtain ⟨hn, h63⟩ := hn
  subst hn
  simp only [seqL_eq, Option.some.injEq] at hσ
  subst hσ
  exact do_appendX hT rfl ht hs he (TabZ.z hZ hz) hzl ha hl rfl hb (by unfold maxLen; omega) (by have := Nat.le_of_ble_eq_true hby; exact Nat.le_trans (Nat.mul_le_mul h63 this) (by omega)) h

/-- An empty slice, written out. -/
theorem s_lit0 (hT : okTab P T = true) (hZ : okTabZ P Z = true) {t e sz bytes : Nat} {agg : Bool} {z : List Value} (hp : (dr && !dos.contains i) = false) (hg : guardB ops fr gd = some true) (hk : (dr && !ends.contains i && !true) = false) (ht : Nat.blt d nt = true) (hs : find1 T.sl t = some e) (he : find1 T.ty e = some (sz, bytes, agg)) (hz : find1 Z.zs e = some z) (h : AL P nt ops dr dos ends l Q ((d, .d .nil) :: fr) σ) : ALo P nt ops dr dos ends i ⟨some d, .buildSlice t 0 #[], ty, pos, aft, gd⟩ l Q fr σ := by
  refine ⟨fun ho => s_do (keep := true) ho hp hg hk ?_⟩
  refine do_value ht (fun v σ' => v = .d .nil ∧ σ' = σ) (fun v σ' ⟨a, b⟩ => a ▸ b ▸ h) fun k x A w s => ?_
  obtain ⟨i0, zv, e1, e2, e3⟩ := (TabZ.z hZ hz).ex
  have hsz := (T.tyIs hT he).size_run w
  refine ⟨.slice (some ⟨w.heap.size, 0, none⟩) 0 0, w.alloc (.cells #[] e), x.frz (Un x.F (oneFrag w.heap.size (.cells #[] e))), .d .nil, _, ?_, Ctx.frz_ext (Le.un_left _ _), ⟨_, rfl⟩, frz_new s.heap _, s.calm.alloc _, fun _ => agree_alloc _ _, rfl, rfl⟩
  unfold execOp
  simp [Instr.buildSlice, run_underlying (T.slIs hT hs), hsz, Instr.fill, newRow]
  congr 2
  apply Array.ext'
  simp [Array.range]

theorem o_adopt (t U sz : Nat) {n : Nat} (h0 : fget fr t = .d .nil) (hl : lenO σ 0 = some n) (hs : seqL (σ ++ [.arr U sz 0 []]) some = some σ') (h : ALo P nt ops dr dos ends i o l Q ((t, .own n 0 sz 0 0) :: fr) σ') : ALo P nt ops dr dos ends i o l Q fr σ :=
  ⟨fun ho => s_adopt t U sz h0 hl hs (h.out ho)⟩
theorem o_wk (t : Nat) {x : DV} (y : DV) (h0 : fget fr t = .d x) (hw : Wk x y) (h : ALo P nt ops dr dos ends i o l Q ((t, .d y) :: fr) σ) : ALo P nt ops dr dos ends i o l Q fr σ :=
  ⟨fun ho => al_ghost (ghost_wk h0 hw) (h.out ho)⟩
end
end Go.Proofs.Ytciciaikajdenaa

/- Steps over owned objects that are not laid out: what changes, what stays. -/
namespace Go.Proofs.Ytciciaikajdenaa
open Go.RowKit

/-- One object is another; more may stand behind. -/
structure Chg (σ : List AObj) (loc : Nat) (o : AObj) (σ' : List AObj) : Prop where
  at' : σ'[loc]? = some o
  len : σ.length ≤ σ'.length
  keep' : ∀ k, k ≠ loc → k < σ.length → σ'[k]? = σ[k]?

/-- A new object. -/
structure Fresh (σ : List AObj) (loc : Nat) (o : AObj) (σ' : List AObj) : Prop where
  at' : σ'[loc]? = some o
  keep' : ∀ k o', σ[k]? = some o' → σ'[k]? = some o' ∧ k ≠ loc

section
variable {σ σ' : List AObj} {loc k n : Nat} {o o' o2 : AObj}
theorem Chg.keep (h : Chg σ loc o σ') (hk : k ≠ loc) (h2 : σ[k]? = some o2) : σ'[k]? = some o2 := by
  rw [h.keep' k hk (List.getElem?_eq_some_iff.1 h2).1]; exact h2
theorem chg_set (h : σ[loc]? = some o') : Chg σ loc o (σ.set loc o) :=
  ⟨List.getElem?_set_self (List.getElem?_eq_some_iff.1 h).1, by simp, fun k hk _ => List.getElem?_set_ne (Ne.symm hk)⟩
theorem Fresh.keep (h : Fresh σ loc o σ') (hk : σ[k]? = some o') : σ'[k]? = some o' := (h.keep' k o' hk).1
theorem Fresh.ne (h : Fresh σ loc o σ') (hk : σ[k]? = some o') : k ≠ loc := (h.keep' k o' hk).2
theorem fresh_app (σ : List AObj) (o : AObj) : Fresh σ σ.length o (σ ++ [o]) :=
  ⟨by simp, fun k o' hk => by
    have := (List.getElem?_eq_some_iff.1 hk).1
    exact ⟨by rw [List.getElem?_append_left this]; exact hk, by omega⟩⟩
end

section
variable {P : Program} {T : Tab} {Z : TabZ} {nt : Nat} {Q : Exit → Fr → List AObj → Prop} {next : Fr → List AObj → Prop} {fr : Fr} {σ σ' : List AObj} {ops : Array Oper} {dr : Bool} {dos ends : List Nat} {l : Trr} {i d : Nat} {o : Oper} {v : AV}
variable {dst : Option Tmp} {op : Op} {ty : TypeId} {pos : String} {aft : Array Edge} {gd : Option (Nat × Bool)}

/-- A nil slice becomes an owned one. -/
theorem o_adoptF (t U sz : Nat) (h0 : fget fr t = .d .nil) (h : ∀ loc σ', Fresh σ loc (.arr U sz 0 []) σ' → ALo P nt ops dr dos ends i o l Q ((t, .own loc 0 sz 0 0) :: fr) σ') : ALo P nt ops dr dos ends i o l Q fr σ :=
  ⟨fun ho => al_ghost (ghost_adopt U sz h0) ((h _ _ (fresh_app _ _)).out ho)⟩
theorem w_adoptF {c : Code} (t U sz : Nat) (h0 : fget fr t = .d .nil) (h : ∀ loc σ', Fresh σ loc (.arr U sz 0 []) σ' → AWk P nt c Q ((t, .own loc 0 sz 0 0) :: fr) σ') : AWk P nt c Q fr σ :=
  aw_ghost (ghost_adopt U sz h0) (h _ _ (fresh_app _ _))

/-- An owned slice becomes frozen. -/
theorem freezeF (t : Nat) {loc U sz ver n : Nat} {rows : List (List DV)} (ht : fget fr t = .own loc ver sz 0 n) (hl : σ[loc]? = some (.arr U sz ver rows)) (hn : n = rows.length) : Ghost fr σ ((t, .d (.lst sz rows)) :: fr) (σ.set loc .dead) :=
  ghost_freeze (ts := [(t, .lst sz rows)]) hl fun p hp => by
    simp at hp
    subst hp
    rw [ht]
    exact ⟨rfl, U, rows, hl, by simp [hn], by omega⟩
theorem o_freezeF (t : Nat) {loc U sz ver n : Nat} {rows : List (List DV)} (ht : fget fr t = .own loc ver sz 0 n) (hl : σ[loc]? = some (.arr U sz ver rows)) (hn : n = rows.length) (h : ∀ σ', Chg σ loc .dead σ' → ALo P nt ops dr dos ends i o l Q ((t, .d (.lst sz rows)) :: fr) σ') : ALo P nt ops dr dos ends i o l Q fr σ :=
  ⟨fun ho => al_ghost (freezeF t ht hl hn) ((h _ (chg_set hl)).out ho)⟩
theorem w_freezeF {c : Code} (t : Nat) {loc U sz ver n : Nat} {rows : List (List DV)} (ht : fget fr t = .own loc ver sz 0 n) (hl : σ[loc]? = some (.arr U sz ver rows)) (hn : n = rows.length) (h : ∀ σ', Chg σ loc .dead σ' → AWk P nt c Q ((t, .d (.lst sz rows)) :: fr) σ') : AWk P nt c Q fr σ :=
  aw_ghost (freezeF t ht hl hn) (h _ (chg_set hl))

/-- append. -/
theorem s_appF (hT : okTab P T = true) (hZ : okTabZ P Z = true) {t tx sz bytes loc ver : Nat} {agg : Bool} {a b : Operand} {U : TypeId} {rows rows2 rows3 : List (List DV)} {n m : Nat} {z : List Value} (hp : (dr && !dos.contains i) = false) (hg : guardB ops fr gd = some true) (hk : (dr && !ends.contains i && !false) = false) (ht : Nat.blt d nt = true) (ha : aget fr a = .own loc ver sz 0 n) (hs : find1 T.sl t = some U) (he : find1 T.ty U = some (sz, bytes, agg)) (hz : find1 Z.zs U = some z) (hzl : Nat.beq z.length sz = true) (hby : Nat.ble bytes 256 = true) (hl : σ[loc]? = some (.arr U sz ver rows)) (hb : SrcOk P fr σ U tx sz b rows2) (h3 : rows ++ rows2 = rows3) (hn : n = rows.length ∧ n + rows2.length ≤ 549755813888 ∧ n + rows2.length = m) (h : ∀ σ', Chg σ loc (.arr U sz (ver + 1) rows3) σ' → AL P nt ops dr dos ends l Q ((d, .own loc (ver + 1) sz 0 m) :: fr) σ') : ALo P nt ops dr dos ends i ⟨some d, .call { callee := .builtin .append, args := #[a, b], argTypes := #[t, tx] }, ty, pos, aft, gd⟩ l Q fr σ := by
  obtain ⟨h1, h2, h4⟩ := hn
  subst h3 h4
  exact s_appX hT hZ hp hg hk ht ha hs he hz hzl hl hby hb (seqL_eq _ _) ⟨h1, h2⟩ (h _ (chg_set hl))

/-- A part of a frozen list, said. -/
theorem s_sliceE (hT : okTab P T = true) {t e sz bytes : Nat} {agg : Bool} {a : Operand} {lo hi : Option Operand} {rows rows' : List (List DV)} {lw hg2 : Option Int} (hp : dr = dr) (hg : guardB ops fr gd = some true) (ht : Nat.blt d nt = true) (ha : aget fr a = .d (.lst sz rows)) (hs : find1 T.sl t = some e) (he : find1 T.ty e = some (sz, bytes, agg)) (hl : bndA fr lo = some lw) (hh : bndA fr hi = some hg2) (h3 : 0 ≤ lw.getD 0 ∧ lw.getD 0 ≤ hg2.getD rows.length ∧ hg2.getD rows.length ≤ rows.length) (h4 : (rows.take (hg2.getD rows.length).toNat).drop (lw.getD 0).toNat = rows') (h : AL P nt ops dr dos ends l Q ((d, .d (.lst sz rows')) :: fr) σ) : ALo P nt ops dr dos ends i ⟨some d, .slice t a lo hi none, ty, pos, aft, gd⟩ l Q fr σ := by
  subst h4
  exact s_slice hT hp hg ht ha hs he hl hh h3 h
end
end Go.Proofs.Ytciciaikajdenaa
/- Steps with what they yield said; calls with less said of their arguments. -/
set_option linter.unusedSimpArgs false
set_option linter.unusedVariables false
namespace Go.Proofs.Ytciciaikajdenaa
open Go.RowKit

theorem Runs.wk {P : Program} {f : FuncId} {args args' : List AV} {σ : List AObj} {post : AV → List AObj → Prop} (h : Runs P f args σ post) (hw : ∀ x us, ALRep x args' us → ALRep x args us) : Runs P f args' σ post :=
  ⟨h.1, fun B R x w vs a b c => h.2 B R x w vs (hw x vs a) b c⟩
theorem awk_nil : ∀ x us, ALRep x [] us → ALRep x [] us := fun _ _ h => h
theorem awk_cons {a b : AV} {l m : List AV} (h : ∀ x u, ARep x a u → ARep x b u) (k : ∀ x us, ALRep x l us → ALRep x m us) : ∀ x us, ALRep x (a :: l) us → ALRep x (b :: m) us :=
  fun x _ ⟨u, us', e, r, q⟩ => ⟨u, us', e, h x u r, k x us' q⟩
theorem awk_d {a b : DV} (h : Wk a b) : ∀ x u, ARep x (.d a) u → ARep x (.d b) u := fun x u r => h x.F u r
theorem awk_same {a : AV} : ∀ x u, ARep x a u → ARep x a u := fun _ _ h => h

section
variable {P : Program} {T : Tab} {Z : TabZ} {nt : Nat} {Q : Exit → Fr → List AObj → Prop} {next : Fr → List AObj → Prop} {fr : Fr} {σ σ' : List AObj} {ops : Array Oper} {dr : Bool} {dos ends : List Nat} {l : Trr} {i d : Nat} {o : Oper} {v : AV}
variable {dst : Option Tmp} {op : Op} {ty : TypeId} {pos : String} {aft : Array Edge} {gd : Option (Nat × Bool)}

theorem s_subV (r : Int) {t t' : TypeId} {a b : Operand} {m n : Int} (hp : dr = dr) (hg : guardB ops fr gd = some true) (ht : Nat.blt d nt = true) (ha : aget fr a = .d (.v (.int .i64 m))) (hb : aget fr b = .d (.v (.int .i64 n))) (hv : m - n = r ∧ -9223372036854775808 ≤ r ∧ r ≤ 9223372036854775807) (h : AL P nt ops dr dos ends l Q ((d, .d (.v (.int .i64 r))) :: fr) σ) : ALo P nt ops dr dos ends i ⟨some d, .binOp .sub t a b t', ty, pos, aft, gd⟩ l Q fr σ := by
  obtain ⟨rfl, h1, h2⟩ := hv
  exact ⟨fun ho => s_read ho hp hg ht (rd_sub64 rfl ha hb (by omega)) h⟩
theorem s_addV (r : Int) {t t' : TypeId} {a b : Operand} {m n : Int} (hp : dr = dr) (hg : guardB ops fr gd = some true) (ht : Nat.blt d nt = true) (ha : aget fr a = .d (.v (.int .i64 m))) (hb : aget fr b = .d (.v (.int .i64 n))) (hv : m + n = r ∧ -9223372036854775808 ≤ r ∧ r ≤ 9223372036854775807) (h : AL P nt ops dr dos ends l Q ((d, .d (.v (.int .i64 r))) :: fr) σ) : ALo P nt ops dr dos ends i ⟨some d, .binOp .add t a b t', ty, pos, aft, gd⟩ l Q fr σ := by
  obtain ⟨rfl, h1, h2⟩ := hv
  exact ⟨fun ho => s_read ho hp hg ht (rd_add64 rfl ha hb (by omega)) h⟩

theorem s_sliceOV (off' len' : Nat) (hT : okTab P T = true) {t e sz bytes loc ver off len : Nat} {agg : Bool} {a : Operand} {lo hi : Option Operand} {lw hg2 : Option Int} {U : TypeId} {rows : List (List DV)} (hp : dr = dr) (hg : guardB ops fr gd = some true) (ht : Nat.blt d nt = true) (ha : aget fr a = .own loc ver sz off len) (hs : find1 T.sl t = some e) (he : find1 T.ty e = some (sz, bytes, agg)) (hl : bndA fr lo = some lw) (hh : bndA fr hi = some hg2) (ho : σ[loc]? = some (.arr U sz ver rows)) (h3 : 0 ≤ lw.getD 0 ∧ lw.getD 0 ≤ hg2.getD len ∧ hg2.getD len ≤ len ∧ (lw.getD 0 = 0 ∨ lw.getD 0 < len)) (h4 : off + (lw.getD 0).toNat = off' ∧ (hg2.getD len).toNat - (lw.getD 0).toNat = len') (h : AL P nt ops dr dos ends l Q ((d, .own loc ver sz off' len') :: fr) σ) : ALo P nt ops dr dos ends i ⟨some d, .slice t a lo hi none, ty, pos, aft, gd⟩ l Q fr σ := by
  obtain ⟨rfl, rfl⟩ := h4
  exact s_sliceO hT hp hg ht ha hs he ho hl hh h3 h
theorem s_sliceSV (r : ByteArray) {t : TypeId} {a : Operand} {lo hi : Option Operand} {s : ByteArray} {lw hg2 : Option Int} (hy : P.underlying t = some .string) (hp : dr = dr) (hg : guardB ops fr gd = some true) (ht : Nat.blt d nt = true) (ha : aget fr a = .d (.v (.string s))) (hl : bndA fr lo = some lw) (hh : bndA fr hi = some hg2) (h3 : 0 ≤ lw.getD 0 ∧ lw.getD 0 ≤ hg2.getD s.size ∧ hg2.getD s.size ≤ s.size) (h4 : s.extract (lw.getD 0).toNat (hg2.getD s.size).toNat = r) (h : AL P nt ops dr dos ends l Q ((d, .d (.v (.string r))) :: fr) σ) : ALo P nt ops dr dos ends i ⟨some d, .slice t a lo hi none, ty, pos, aft, gd⟩ l Q fr σ := by
  subst h4
  exact s_sliceS hy hp hg ht ha hl hh h3 h
theorem s_convBV (r : ByteArray) {t t' U : TypeId} {a : Operand} {rows : List (List DV)} {bs : List UInt8} (h1 : P.underlying t = some (.slice U)) (hu : P.underlying U = some (.int .u8)) (hd : P.underlying t' = some .string) (hp : dr = dr) (hg : guardB ops fr gd = some true) (ht : Nat.blt d nt = true) (hr : RowsOk fr σ 1 a rows) (hb : rows = bytesD bs) (hv : (⟨bs.toArray⟩ : ByteArray) = r) (h : AL P nt ops dr dos ends l Q ((d, .d (.v (.string r))) :: fr) σ) : ALo P nt ops dr dos ends i ⟨some d, .convert t t' a, ty, pos, aft, gd⟩ l Q fr σ := by
  subst hv
  exact s_convB h1 hu hd hp hg ht hr hb h
end
end Go.Proofs.Ytciciaikajdenaa
/- Elements of owned slices, read and written; new objects, over objects that are not laid out. -/
set_option linter.unusedSimpArgs false
set_option linter.unusedVariables false
namespace Go.Proofs.Ytciciaikajdenaa
open Go.RowKit

theorem LRep.dropD {F : Frag} : ∀ (n : Nat) {ds : List DV} {us : List Value}, LRep F ds us → LRep F (ds.drop n) (us.drop n)
  | 0, _, _, h => h
  | n + 1, [], us, h => by rw [h]; simp [LRep]
  | n + 1, d :: ds, us, ⟨u, us', e, _, q⟩ => by subst e; exact LRep.dropD n q
theorem LRep.takeD {F : Frag} : ∀ (n : Nat) {ds : List DV} {us : List Value}, LRep F ds us → LRep F (ds.take n) (us.take n)
  | 0, _, _, _ => by simp [LRep]
  | n + 1, [], us, h => by rw [h]; simp [LRep]
  | n + 1, d :: ds, us, ⟨u, us', e, r, q⟩ => by subst e; exact ⟨u, us'.take n, rfl, r, LRep.takeD n q⟩
theorem LRep.appendD {F : Frag} : ∀ {a b : List DV} {us vs : List Value}, LRep F a us → LRep F b vs → LRep F (a ++ b) (us ++ vs)
  | [], _, _, _, h, k => by rw [h]; exact k
  | _ :: _, _, _, _, ⟨u, us', e, r, q⟩, k => by subst e; exact ⟨u, us' ++ _, by simp, r, LRep.appendD q k⟩

/-- A row written anew in part. -/
theorem FRep.splice {F : Frag} {sz : Nat} : ∀ {rs : List (List DV)} {us vs : List Value} {ds : List DV} {i f : Nat} {r : List DV}, FRep F sz rs us → rs[i]? = some r → LRep F ds vs → f + ds.length ≤ sz → FRep F sz (rs.set i (spliceL r f ds)) (spliceL us (i * sz + f) vs)
  | [], _, _, _, _, _, _, _, e, _, _ => by simp at e
  | a :: rs, _, vs, ds, 0, f, r, ⟨u, us', e1, hl, l, q⟩, e, hv, hf => by
    simp at e; subst e e1
    have hu : u.length = a.length := l.len
    have hvl := hv.len
    have h1 : spliceL (u ++ us') (0 * sz + f) vs = spliceL u f vs ++ us' := by
      unfold spliceL
      simp only [Nat.zero_mul, Nat.zero_add]
      rw [List.take_append_of_le_length (by omega), List.drop_append_of_le_length (by omega)]
      simp
    rw [h1]
    refine ⟨spliceL u f vs, us', rfl, ?_, ?_, q⟩
    · unfold spliceL; simp; omega
    · unfold spliceL
      rw [hvl]
      exact ((l.takeD f).appendD hv).appendD (l.dropD _)
  | a :: rs, _, vs, ds, i + 1, f, r, ⟨u, us', e1, hl, l, q⟩, e, hv, hf => by
    subst e1
    have hu : u.length = sz := by rw [l.len, hl]
    have h1 : spliceL (u ++ us') ((i + 1) * sz + f) vs = u ++ spliceL us' (i * sz + f) vs := by
      unfold spliceL
      have e2 : (i + 1) * sz + f = u.length + (i * sz + f) := by rw [hu, Nat.add_mul]; omega
      rw [e2, List.take_length_add_append, Nat.add_assoc, List.drop_length_add_append]
      simp
    rw [h1]
    exact ⟨u, _, rfl, hl, l, FRep.splice q (by simpa using e) hv hf⟩

theorem FRep.getF {F : Frag} {sz : Nat} : ∀ {rs : List (List DV)} {us : List Value} {i : Nat} {r : List DV}, FRep F sz rs us → rs[i]? = some r → r.length = sz ∧ LRep F r ((us.drop (i * sz)).take sz) ∧ (i + 1) * sz ≤ us.length
  | [], _, _, _, _, e => by simp at e
  | a :: rs, _, 0, r, ⟨u, us', e1, hl, l, q⟩, e => by
    simp at e; subst e e1
    have : u.length = a.length := l.len
    refine ⟨hl, ?_, by simp; omega⟩
    rw [Nat.zero_mul, List.drop_zero, ← hl, ← this, List.take_left]; exact l
  | a :: rs, _, i + 1, r, ⟨u, us', e1, hl, l, q⟩, e => by
    subst e1
    have hu : u.length = sz := by rw [l.len, hl]
    obtain ⟨h1, h2, h3⟩ := FRep.getF (i := i) q (by simpa using e)
    refine ⟨h1, ?_, ?_⟩
    · rw [show (i + 1) * sz = u.length + i * sz by rw [Nat.add_mul, hu]; omega, List.drop_length_add_append]
      exact h2
    · rw [List.length_append, hu, Nat.add_mul]
      omega

section
variable {P : Program} {T : Tab} {nt : Nat} {fr : Fr} {σ : List AObj} {o : Oper} {next : Fr → List AObj → Prop}

/-- The rows of an owned slice, in memory. -/
theorem arr_cells {k : K0} {x : Ctx} {A : Act} {w : World} (s : Sim k x nt fr σ A w) {loc U sz ver : Nat} {rows : List (List DV)} (hl : σ[loc]? = some (.arr U sz ver rows)) {i : Nat} {r : List DV} (hr : rows[i]? = some r) :
    (x.env loc).ver = ver ∧ ∃ us rest, w.heap[(x.env loc).blk]? = some (.cells (us ++ rest).toArray U (0, 0)) ∧ FRep x.F sz rows us ∧ ∀ u ∈ us, u.oneCell' = true := by
  obtain ⟨g, g1, g2, _⟩ := s.heap.own
  obtain ⟨hv, ⟨_, h0⟩ | ⟨_, us, rest, hb, hf, h1, _⟩⟩ := g1 loc _ hl
  · subst h0; simp at hr
  · exact ⟨hv, us, rest, g2 loc _ _ hb, hf, h1⟩

theorem rd_load_arr (hT : okTab P T = true) {t sz0 bytes loc ver off U sz i f : Nat} {agg : Bool} {a : Operand} {rows : List (List DV)} {r : List DV} {v : DV} (ho : o.op = .load t a) (ht : find1 T.ty t = some (sz0, bytes, agg)) (ha : aget fr a = .ptr loc ver off)
    (hl : σ[loc]? = some (.arr U sz ver rows)) (hr : rows[i]? = some r) (hoff : i * sz + f = off) (hv : ldD agg sz0 (r.drop f) = some v) : RdOp P o fr σ (.d v) := by
  intro k x nt A w s
  have hty := T.tyIs hT ht
  have hra := s.arg a
  rw [ha] at hra
  obtain ⟨_, _, ad, e, hc⟩ := hra
  obtain ⟨hver, us, rest, hb, hf, h1⟩ := arr_cells s hl hr
  have had := hc hver.symm
  subst had
  obtain ⟨g1, g2, g3⟩ := hf.getF hr
  have hlt : i < rows.length := (List.getElem?_eq_some_iff.1 hr).1
  have hus : us.length = rows.length * sz := hf.len
  have hcell : ∀ w', Agree w w' → ∀ j u, (((us.drop (i * sz)).take sz).drop f)[j]? = some u → w'.cell? ⟨(x.env loc).blk, off + j, none⟩ = some u := fun w' ag j u hj => by
    have := ag.get hb
    unfold World.cell?
    rw [this]
    have hj0 := (List.getElem?_eq_some_iff.1 hj).1
    simp only [List.length_drop, List.length_take] at hj0
    rw [List.getElem?_drop, List.getElem?_take, if_pos (by omega), List.getElem?_drop] at hj
    simp only [List.getElem?_toArray]
    rw [List.getElem?_append_left (by omega), ← hoff, show i * sz + f + j = i * sz + (f + j) by omega]
    exact hj
  have hrep := g2.dropD f
  have hrl := hrep.len
  have one : ∀ u ∈ ((us.drop (i * sz)).take sz).drop f, u.oneCell' = true := fun u hu => h1 u (List.mem_of_mem_drop (List.mem_of_mem_take (List.mem_of_mem_drop hu)))
  unfold ldD at hv
  cases agg with
  | true =>
    simp only [cond_true] at hv
    cases hz : Nat.ble sz0 (r.drop f).length with
    | false => rw [hz] at hv; cases hv
    | true =>
      rw [hz] at hv
      injection hv with hv
      subst hv
      have hlen : ((((us.drop (i * sz)).take sz).drop f).take sz0).length = sz0 := by
        rw [List.length_take, hrl]; exact Nat.min_eq_left (Nat.le_of_ble_eq_true hz)
      refine ⟨.agg ((((us.drop (i * sz)).take sz).drop f).take sz0).toArray, ⟨_, rfl, hrep.takeD sz0, fun u hu => one u (List.mem_of_mem_take hu)⟩, fun w' ag => ?_⟩
      have ag := ag.resolve_left (by rw [ho]; exact Bool.false_ne_true)
      have := (loadVar_run hty w' (x.env loc).blk off ((((us.drop (i * sz)).take sz).drop f).take sz0) (fun j u hj => by
        rw [List.getElem?_take] at hj
        split at hj
        · exact hcell w' ag j u hj
        · cases hj)).1 rfl hlen
      simp [execOp, ho, Instr.loadAt, e, Instr.sureAddr, this]
  | false =>
    simp only [cond_false] at hv
    generalize hrf : r.drop f = rf at hv hrep hrl
    cases rf with
    | nil => cases hv
    | cons d ds =>
      simp only [List.head?_cons, Option.some.injEq] at hv
      subst hv
      obtain ⟨u, us', e1, e2, _⟩ := hrep
      refine ⟨u, e2, fun w' ag => ?_⟩
      have ag := ag.resolve_left (by rw [ho]; exact Bool.false_ne_true)
      have := (loadVar_run hty w' (x.env loc).blk off [u] (fun j y hj => by
        cases j with
        | zero => simp at hj; subst hj; exact hcell w' ag 0 _ (by rw [e1]; rfl)
        | succ j => simp at hj)).2 rfl u rfl
      simp [execOp, ho, Instr.loadAt, e, Instr.sureAddr, this]

/-- A store into an owned slice's array. -/
theorem do_store_arr (hT : okTab P T = true) {t sz0 bytes loc ver off U sz i f : Nat} {agg : Bool} {a b : Operand} {rows : List (List DV)} {r ds : List DV} (ho : o.op = .store t a b) (hd : o.dst = none) (ht : find1 T.ty t = some (sz0, bytes, agg)) (ha : aget fr a = .ptr loc ver off)
    (hl : σ[loc]? = some (.arr U sz ver rows)) (hr : rows[i]? = some r) (hoff : i * sz + f = off) (h1 : oneA (aget fr b) = true) (h2 : allD (cellsA (aget fr b)) = some ds) (h3 : Nat.beq ds.length sz0 = true) (h4 : f + sz0 ≤ sz)
    (hn : next fr (σ.set loc (.arr U sz ver (rows.set i (spliceL r f ds))))) : DoOp P nt o fr σ false next := by
  refine do_skip hd hn fun k x A w s => ?_
  have h3 := Nat.eq_of_beq_eq_true h3
  obtain ⟨r1, r2⟩ := cellsA_rep (s.arg b) h1
  rw [allD_map h2] at r1
  have r1 := r1.toD
  have hra := s.arg a
  rw [ha] at hra
  obtain ⟨_, _, ad, e, hc⟩ := hra
  obtain ⟨g, g1, g2, g3, g4⟩ := s.heap.own
  have hobj := g1 loc _ hl
  obtain ⟨hver, hobj'⟩ := hobj
  have had := hc hver.symm
  subst had
  have hlt : i < rows.length := (List.getElem?_eq_some_iff.1 hr).1
  rcases hobj' with ⟨_, h0⟩ | ⟨hlive, us, rest, hb, hf, ho1, hc1, hc2, hc3⟩
  · subst h0; simp at hlt
  have hus := hf.len
  have hvl := r1.len
  have hsz : (A.eval b).cells.size = sz0 := by simpa [h3] using hvl
  have hin : off + sz0 ≤ us.length := by
    have h5 : (i + 1) * sz ≤ us.length := (hf.getF hr).2.2
    rw [Nat.add_mul] at h5
    omega
  have hrun := run_storeCells_at P (x.env loc).blk off U (A.eval b).cells.toList 0 (us ++ rest).toArray w (g2 loc _ _ hb) (by simp; omega) r2
  generalize hw2 : w.setRow (x.env loc).blk ((us ++ rest).toArray.toList.take (off + 0) ++ (A.eval b).cells.toList ++ (us ++ rest).toArray.toList.drop (off + 0 + (A.eval b).cells.toList.length)).toArray = w2 at hrun
  have hspl : (us ++ rest).take (off + 0) ++ (A.eval b).cells.toList ++ (us ++ rest).drop (off + 0 + (A.eval b).cells.toList.length) = spliceL us off (A.eval b).cells.toList ++ rest := by
    unfold spliceL
    rw [Nat.add_zero, List.take_append_of_le_length (by omega), List.drop_append_of_le_length (by simp; omega)]
    simp
  have hnew : w2.heap[(x.env loc).blk]? = some (.cells (spliceL us off (A.eval b).cells.toList ++ rest).toArray U (0, 0)) := by
    rw [← hw2, setRow_heap w _ (us ++ rest).toArray _ U (0, 0) (g2 loc _ _ hb)]
    simp only [List.toList_toArray]
    rw [hspl]
  have hx : CtxExt x (x.upd loc (x.env loc)) := Ctx.upd_ext (Nat.le_refl _) fun _ => ⟨rfl, rfl, rfl⟩
  refine ⟨w2, x.upd loc (x.env loc), ?_, hx, s.heap.upd hl hx fun g0 hg0 hle0 => ⟨⟨oneFrag (x.env loc).blk (.cells (spliceL us off (A.eval b).cells.toList ++ rest).toArray U (0, 0)), ?_, ?_, ?_⟩, ?_⟩, ?_, fun h => by cases h⟩
  · unfold execOp
    simp [ho, Instr.storeAt, e, Instr.sureAddr, storeVar, (T.tyIs hT ht).size_run w, hsz, hrun]
  · refine ⟨hver, .inr ⟨hlive, spliceL us off (A.eval b).cells.toList, rest, by simp [oneFrag], ?_, ?_, by simpa using hc1, hc2, ?_⟩⟩
    · rw [← hoff]
      exact (hf.splice hr r1 (by omega)).mono hx.F
    · intro y hy
      unfold spliceL at hy
      simp only [List.mem_append] at hy
      rcases hy with (hy | hy) | hy
      · exact ho1 y (List.mem_of_mem_take hy)
      · exact r2 y hy
      · exact ho1 y (List.mem_of_mem_drop hy)
    · have : (spliceL us off (A.eval b).cells.toList).length = us.length := by
        unfold spliceL; simp; omega
      rw [this]; exact hc3
  · intro c ob hb
    unfold oneFrag at hb
    split at hb
    · rename_i hcb; injection hb with hb; subst hcb hb; exact hnew
    · cases hb
  · intro c hc
    left
    unfold oneFrag at hc
    split at hc
    · rename_i hcb
      subst hcb
      obtain ⟨_, ⟨q0, _⟩ | ⟨_, us', rest', q1, _⟩⟩ := hg0
      · rw [hlive] at q0; cases q0
      · rw [q1]; simp
    · exact absurd rfl hc
  · intro c hc hlt
    rw [← hw2]
    refine setRow_other w _ c _ fun q => ?_
    subst q
    obtain ⟨_, ⟨q0, _⟩ | ⟨_, us', rest', q1, _⟩⟩ := hg0
    · rw [hlive] at q0; cases q0
    · rw [hc] at q1; cases q1
  · rw [← hw2]
    exact ⟨s.calm.os, s.calm.tape, s.calm.output⟩
end

section
variable {P : Program} {T : Tab} {Z : TabZ} {nt : Nat} {Q : Exit → Fr → List AObj → Prop} {next : Fr → List AObj → Prop} {fr : Fr} {σ σ' : List AObj} {ops : Array Oper} {dr : Bool} {dos ends : List Nat} {l : Trr} {i d : Nat} {o : Oper} {v : AV}
variable {dst : Option Tmp} {op : Op} {ty : TypeId} {pos : String} {aft : Array Edge} {gd : Option (Nat × Bool)}

theorem s_idxO (off' : Nat) (hT : okTab P T = true) {t e sz bytes loc ver off len : Nat} {agg : Bool} {a b : Operand} {k : IntKind} {j : Nat} {U : TypeId} {rows : List (List DV)} (hp : dr = dr) (hg : guardB ops fr gd = some true) (ht : Nat.blt d nt = true) (hs : find1 T.sl t = some e) (he : find1 T.ty e = some (sz, bytes, agg)) (ha : aget fr a = .own loc ver sz off len) (hb : aget fr b = .d (.v (.int k (j : Int)))) (hl : σ[loc]? = some (.arr U sz ver rows)) (hj : j < len ∧ (off + j) * sz = off') (h : AL P nt ops dr dos ends l Q ((d, .ptr loc ver off') :: fr) σ) : ALo P nt ops dr dos ends i ⟨some d, .indexAddr t a b, ty, pos, aft, gd⟩ l Q fr σ := by
  obtain ⟨h1, rfl⟩ := hj
  exact ⟨fun ho => s_read ho hp hg ht (rd_index_own hT rfl hs he ha hb h1 hl) h⟩
theorem s_ldA (j f : Nat) (hT : okTab P T = true) {t sz0 bytes loc ver off U sz : Nat} {agg : Bool} {a : Operand} {rows : List (List DV)} {r : List DV} {y : DV} (hp : dr = dr) (hg : guardB ops fr gd = some true) (ht : Nat.blt d nt = true) (hy : find1 T.ty t = some (sz0, bytes, agg)) (ha : aget fr a = .ptr loc ver off) (hl : σ[loc]? = some (.arr U sz ver rows)) (hr : rows[j]? = some r) (hoff : j * sz + f = off) (hv : ldDO agg sz0 (r.drop f) = some y) (h : AL P nt ops dr dos ends l Q ((d, .d y) :: fr) σ) : ALo P nt ops dr dos ends i ⟨some d, .load t a, ty, pos, aft, gd⟩ l Q fr σ :=
  ⟨fun ho => s_read ho hp hg ht (rd_load_arr hT rfl hy ha hl hr hoff (ldDO_eq hv)) h⟩
theorem s_stA (j f : Nat) (hT : okTab P T = true) {t sz0 bytes loc ver off U sz : Nat} {agg : Bool} {a b : Operand} {rows rows' : List (List DV)} {r ds : List DV} (hp : (dr && !dos.contains i) = false) (hg : guardB ops fr gd = some true) (hk : (dr && !ends.contains i && !false) = false) (hy : find1 T.ty t = some (sz0, bytes, agg)) (ha : aget fr a = .ptr loc ver off) (h1 : oneA (aget fr b) = true) (h2 : allD (cellsA (aget fr b)) = some ds) (h3 : Nat.beq ds.length sz0 = true) (hl : σ[loc]? = some (.arr U sz ver rows)) (hr : rows[j]? = some r) (hoff : j * sz + f = off) (h4 : f + sz0 ≤ sz) (h5 : rows.set j (spliceL r f ds) = rows') (h : ∀ σ', Chg σ loc (.arr U sz ver rows') σ' → AL P nt ops dr dos ends l Q fr σ') : ALo P nt ops dr dos ends i ⟨none, .store t a b, ty, pos, aft, gd⟩ l Q fr σ := by
  subst h5
  exact ⟨fun ho => s_do (keep := false) ho hp hg hk (do_store_arr hT rfl rfl hy ha hl hr hoff h1 h2 h3 h4 (h _ (chg_set hl)))⟩

theorem s_allocF (hZ : okTabZ P Z = true) {t : Nat} {z : List Value} {c : List AV} (hp : (dr && !dos.contains i) = false) (hg : guardB ops fr gd = some true) (hk : (dr && !ends.contains i && !true) = false) (ht : Nat.blt d nt = true) (hz : find1 Z.zs t = some z) (hs : seqL (z.map constAV) some = some c) (h : ∀ loc σ', Fresh σ loc (.row t c) σ' → AL P nt ops dr dos ends l Q ((d, .ptr loc 0 0) :: fr) σ') : ALo P nt ops dr dos ends i ⟨some d, .alloc t, ty, pos, aft, gd⟩ l Q fr σ := by
  refine ⟨fun ho => s_do (keep := true) ho hp hg hk ?_⟩
  rw [seqL_eq] at hs
  injection hs with hs
  subst hs
  exact do_alloc (TabZ.z hZ hz) rfl ht (h _ _ (fresh_app _ _))
theorem s_boxF {t : Nat} {a : Operand} {c : List AV} (hp : (dr && !dos.contains i) = false) (hg : guardB ops fr gd = some true) (hk : (dr && !ends.contains i && !true) = false) (ht : Nat.blt d nt = true) (h1 : oneA (aget fr a) = true) (hs : seqL (cellsA (aget fr a)) some = some c) (h : ∀ loc σ', Fresh σ loc (.row t c) σ' → AL P nt ops dr dos ends l Q ((d, .ptr loc 0 0) :: fr) σ') : ALo P nt ops dr dos ends i ⟨some d, .box t a, ty, pos, aft, gd⟩ l Q fr σ := by
  refine ⟨fun ho => s_do (keep := true) ho hp hg hk ?_⟩
  rw [seqL_eq] at hs
  injection hs with hs
  subst hs
  exact do_box rfl ht h1 (h _ _ (fresh_app _ _))
theorem s_storeF (hT : okTab P T = true) {t sz bytes loc off : Nat} {agg : Bool} {a b : Operand} {U : TypeId} {cells c : List AV} (hp : (dr && !dos.contains i) = false) (hg : guardB ops fr gd = some true) (hk : (dr && !ends.contains i && !false) = false) (ha : aget fr a = .ptr loc 0 off) (hy : find1 T.ty t = some (sz, bytes, agg)) (h1 : oneA (aget fr b) = true) (h2 : Nat.beq (cellsA (aget fr b)).length sz = true) (hs : σ[loc]? = some (.row U cells)) (h3 : Nat.ble (off + sz) cells.length = true) (hσ : seqL (spliceL cells off (cellsA (aget fr b))) some = some c) (h : ∀ σ', Chg σ loc (.row U c) σ' → AL P nt ops dr dos ends l Q fr σ') : ALo P nt ops dr dos ends i ⟨none, .store t a b, ty, pos, aft, gd⟩ l Q fr σ := by
  refine ⟨fun ho => s_do (keep := false) ho hp hg hk ?_⟩
  rw [seqL_eq] at hσ
  injection hσ with hσ
  subst hσ
  exact do_store hT rfl rfl hy ha hs h1 (Nat.eq_of_beq_eq_true h2) h3 (h _ (chg_set hs))
theorem s_ldF (hT : okTab P T = true) {t sz bytes U loc off : Nat} {agg : Bool} {a : Operand} {cells : List AV} (hp : dr = dr) (hg : guardB ops fr gd = some true) (ht : Nat.blt d nt = true) (ha : aget fr a = .ptr loc 0 off) (hy : find1 T.ty t = some (sz, bytes, agg)) (hs : σ[loc]? = some (.row U cells)) (hv : ldAO agg sz off cells = some v) (h : AL P nt ops dr dos ends l Q ((d, v) :: fr) σ) : ALo P nt ops dr dos ends i ⟨some d, .load t a, ty, pos, aft, gd⟩ l Q fr σ := s_ld_p hT hp hg ht ha hy hs hv h

/-- A frame that is another. -/
theorem o_fr {fr' : Fr} (e : fr' = fr) (h : ALo P nt ops dr dos ends i o l Q fr' σ) : ALo P nt ops dr dos ends i o l Q fr σ := e ▸ h
end

/-- A nil slice in a row becomes an owned one. -/
theorem ghost_adopt_cell {fr : Fr} {σ : List AObj} {loc j t U sz : Nat} {cells : List AV} (hl : σ[loc]? = some (.row t cells)) (hj : cells[j]? = some (.d .nil)) :
    Ghost fr σ fr ((σ ++ [AObj.arr U sz 0 []]).set loc (.row t (cells.set j (.own σ.length 0 sz 0 0)))) := by
  intro k x nt A w s
  have hh := s.heap
  obtain ⟨g, g1, g2, g3, g4⟩ := hh.own
  have hx := x.push_ext ⟨0, 0, 0, false⟩
  have hll := (List.getElem?_eq_some_iff.1 hl).1
  have hn := hh.n
  refine ⟨_, hx, s.size, s.defers, fun i => (s.tmps i).ext hx, ⟨hh.hF, hh.hR, by simp [Ctx.push, hh.n], hh.FR, fun l => if l = x.n then fun _ => none else g l, fun l o' hl' => ?_, fun l => ?_, fun l k hlk => ?_, fun l => ?_⟩, s.calm⟩
  · by_cases e : l = x.n
    · subst e
      rw [List.getElem?_set_ne (by omega), hn, List.getElem?_concat_length] at hl'
      injection hl' with hl'
      subst hl'
      exact ⟨by simp [Ctx.push], .inl ⟨by simp [Ctx.push], rfl⟩⟩
    · (try dsimp only)
      rw [if_neg e]
      have he : (x.push ⟨0, 0, 0, false⟩).env l = x.env l := by simp [Ctx.push, e]
      rw [he]
      by_cases e2 : l = loc
      · subst e2
        rw [List.getElem?_set_self (by simp; omega)] at hl'
        injection hl' with hl'
        subst hl'
        obtain ⟨hv, us, h1, h2, h3⟩ := g1 l _ hl
        refine ⟨hv, us, h1, ?_, h3⟩
        replace h2 := ALRep.ext hx h2
        clear h1 h3 hl
        induction cells generalizing us j with
        | nil => simp at hj
        | cons c cs ih =>
          obtain ⟨u, us', e3, r, q⟩ := h2
          cases j with
          | zero =>
            simp at hj
            subst hj
            obtain ⟨a, ha⟩ := r
            refine ⟨u, us', e3, ?_, q⟩
            rw [ha]
            refine ⟨by simp [Ctx.push, hn], by simp, a, 0, rfl, fun _ => ⟨Nat.le_refl _, fun q => ?_, fun _ => rfl⟩⟩
            simp [Ctx.push, hn] at q
          | succ j => exact ⟨u, us', e3, r, ih (by simpa using hj) _ q⟩
      · have hlt : l < σ.length := by
          rw [List.getElem?_set_ne (Ne.symm e2)] at hl'
          have := (List.getElem?_eq_some_iff.1 hl').1
          simp at this
          omega
        rw [List.getElem?_set_ne (Ne.symm e2), List.getElem?_append_left hlt] at hl'
        exact (g1 l o' hl').ext hx
  · (try dsimp only)
    split
    · intro b o e; cases e
    · exact g2 l
  · (try dsimp only)
    split
    · exact fun b => .inl rfl
    · split
      · exact fun b => .inr rfl
      · exact g3 l k hlk
  · (try dsimp only)
    split
    · exact ⟨fun b => .inl rfl, fun b => .inl rfl⟩
    · exact g4 l

/-! A call over frozen data, owned slices lent to it. -/
def viewD (σ : List AObj) : AV → DV → Prop
  | .d x, d => x = d
  | .own loc ver sz off len, d => asD σ (.own loc ver sz off len) loc d
  | .ptr loc ver off, d => asD σ (.ptr loc ver off) loc d
  | _, _ => False
def viewL (σ : List AObj) : List AV → List DV → Prop
  | [], ds => ds = []
  | a :: l, ds => ∃ d ds', ds = d :: ds' ∧ viewD σ a d ∧ viewL σ l ds'

section
variable {P : Program} {nt : Nat} {fr : Fr} {σ : List AObj} {o : Oper} {next : Fr → List AObj → Prop} {keep : Bool}

theorem viewD_rep {k : K0} {x : Ctx} {A : Act} {w : World} (s : Sim k x nt fr σ A w) {v : AV} {d : DV} {u : Value} (h : ARep x v u) (hv : viewD σ v d) : DRep (fun b => w.heap[b]?) d u := by
  cases v with
  | d y => exact hv ▸ DRep.mono s.heap.hF h
  | own loc ver sz off len =>
    obtain ⟨g, g1, g2, g3, g4⟩ := s.heap.own
    have hv' := hv
    obtain ⟨_, U, rows, hl, _⟩ := hv
    have := asD_rep h hv' hl (g1 loc _ hl) (g4 loc).1
    exact this.mono (Le.un s.heap.hF (g2 loc))
  | ptr loc ver off =>
    obtain ⟨g, g1, g2, g3, g4⟩ := s.heap.own
    have hv' := hv
    obtain ⟨_, _, U, cells, ds, hl, _⟩ := hv
    have := asD_rep h hv' hl (g1 loc _ hl) (g4 loc).1
    exact this.mono (Le.un s.heap.hF (g2 loc))
  | mp _ => exact hv.elim
  | agg _ => exact hv.elim
  | tup _ => exact hv.elim
  | clo _ _ _ => exact hv.elim
  | any => exact hv.elim
theorem viewL_rep {k : K0} {x : Ctx} {A : Act} {w : World} (s : Sim k x nt fr σ A w) : ∀ {l : List AV} {ds : List DV} {us : List Value}, ALRep x l us → viewL σ l ds → LRep (fun b => w.heap[b]?) ds us
  | [], ds, us, h, hv => by have hv : ds = [] := hv; subst hv; exact h
  | a :: l, ds, us, ⟨u, us', e, r, q⟩, ⟨d, ds', e2, h1, h2⟩ => by
    subst e e2
    exact ⟨u, us', rfl, viewD_rep s r h1, viewL_rep s q h2⟩

theorem do_callB {g : FuncId} {fs cs as : List AV} {ds : List DV} {f : Operand} {args : Array Operand} {tys : Array TypeId} {post : DV → Prop} (ho : o.op = .call { callee := .value f, args := args, argTypes := tys })
    (hf : cloOf (aget fr f) = some (g, fs, cs)) (ht : dstOk o.dst nt = true) (has : fs ++ args.toList.map (aget fr) ++ cs = as) (hd : viewL σ as ds) (hr : RunsP P g ds post) (hp : ∀ v, post v → ∃ y, v = .v y) (hn : ∀ v, post v → next (fput o.dst (.d v) fr) σ) : DoOp P nt o fr σ keep next := by
  intro k x A w Q s
  obtain ⟨vs, h1, h2⟩ := call_run s hr.1 ho hf
  rw [has] at h2
  unfold Oper.wp
  rw [h1, Oper.upon_enter]
  refine Calls.mono (hr.2 k.B (fun b => w.heap[b]?) w vs (viewL_rep s h2 hd) (Le.refl _) s.calm) fun e w' ⟨u, v, F', e1, e2, e3, e4, e5, e6, e7, e8⟩ => ?_
  subst e1
  obtain ⟨y, rfl⟩ := hp v e8
  have hx : CtxExt x (x.frz x.F) := Ctx.frz_ext (Le.refl _)
  exact ⟨fun _ => e5, _, _, σ, hx, (s.to hx (s.heap.callP (Le.refl _) (s.heap.hF.agree e5) e5 (fun _ h _ => h)) e7).put (v := .d (.v y)) ht e3, hn _ e8⟩
end

section
variable {P : Program} {nt : Nat} {Q : Exit → Fr → List AObj → Prop} {fr : Fr} {σ : List AObj} {ops : Array Oper} {dr : Bool} {dos ends : List Nat} {l : Trr} {i d : Nat}
variable {ty : TypeId} {pos : String} {aft : Array Edge} {gd : Option (Nat × Bool)}
theorem s_callB {g : FuncId} {fs cs as : List AV} {ds : List DV} {f : Operand} {args : Array Operand} {tys : Array TypeId} {post : DV → Prop} (hp : (dr && !dos.contains i) = false) (hg : guardB ops fr gd = some true) (hk : (dr && !ends.contains i && !true) = false) (ht : Nat.blt d nt = true) (hf : cloOf (aget fr f) = some (g, fs, cs)) (has : seqL (fs ++ args.toList.map (aget fr) ++ cs) some = some as) (hd : viewL σ as ds) (hr : RunsP P g ds post) (hpl : ∀ v, post v → ∃ y, v = .v y) (h : ∀ v, post v → AL P nt ops dr dos ends l Q ((d, .d v) :: fr) σ) : ALo P nt ops dr dos ends i ⟨some d, .call { callee := .value f, args := args, argTypes := tys }, ty, pos, aft, gd⟩ l Q fr σ := by
  refine ⟨fun ho => s_do (keep := true) ho hp hg hk ?_⟩
  rw [seqL_eq] at has
  injection has with has
  exact do_callB rfl hf ht has hd hr hpl h
theorem viewL_nil : viewL σ [] [] := rfl
theorem viewL_d {x : DV} {l : List AV} {ds : List DV} (h : viewL σ l ds) : viewL σ (.d x :: l) (x :: ds) := ⟨x, ds, rfl, rfl, h⟩
theorem viewL_ptr {loc off : Nat} {U : TypeId} {cells : List AV} {cs : List DV} {l : List AV} {ds : List DV} (hl : σ[loc]? = some (.row U cells)) (hc : allD cells = some cs) (h : viewL σ l ds) : viewL σ (.ptr loc 0 off :: l) (.fptr (cs.drop off) :: ds) :=
  ⟨_, ds, rfl, ⟨rfl, rfl, U, cells, cs, hl, hc, rfl⟩, h⟩
theorem viewL_own {loc ver sz n : Nat} {U : TypeId} {rows : List (List DV)} {l : List AV} {ds : List DV} (hl : σ[loc]? = some (.arr U sz ver rows)) (hn : n = rows.length) (h : viewL σ l ds) : viewL σ (.own loc ver sz 0 n :: l) (.lst sz rows :: ds) :=
  ⟨_, ds, rfl, ⟨rfl, U, rows, hl, by rw [List.drop_zero, hn, List.take_length], by omega⟩, h⟩
end

section
variable {P : Program} {T : Tab} {Z : TabZ} {nt : Nat} {Q : Exit → Fr → List AObj → Prop} {fr : Fr} {σ σ' : List AObj} {ops : Array Oper} {dr : Bool} {dos ends : List Nat} {l : Trr} {i d : Nat} {o : Oper}
variable {dst : Option Tmp} {op : Op} {ty : TypeId} {pos : String} {aft : Array Edge} {gd : Option (Nat × Bool)}

theorem rd_rem {t t' : TypeId} {a b : Operand} {k : IntKind} {m n : Int} (ho : o.op = .binOp .rem t a b t') (ha : aget fr a = .d (.v (.int k m))) (hb : aget fr b = .d (.v (.int k n))) (hn : n ≠ 0) : RdOp P o fr σ (.d (.v (.int k (m.tmod n)))) := by
  intro x c nt A w s
  have h1 := s.arg a
  have h2 := s.arg b
  rw [ha] at h1
  rw [hb] at h2
  obtain ⟨e1, _⟩ := h1
  obtain ⟨e2, _⟩ := h2
  refine ⟨_, ⟨rfl, rfl⟩, fun w' _ => ?_⟩
  unfold execOp
  simp [ho, e1, e2, eqGuard, binOp, Op.intDiv, hn]
theorem s_remV (r : Int) {t t' : TypeId} {a b : Operand} {k : IntKind} {m n : Int} (hp : dr = dr) (hg : guardB ops fr gd = some true) (ht : Nat.blt d nt = true) (ha : aget fr a = .d (.v (.int k m))) (hb : aget fr b = .d (.v (.int k n))) (hv : n ≠ 0 ∧ m.tmod n = r) (h : AL P nt ops dr dos ends l Q ((d, .d (.v (.int k r))) :: fr) σ) : ALo P nt ops dr dos ends i ⟨some d, .binOp .rem t a b t', ty, pos, aft, gd⟩ l Q fr σ := by
  obtain ⟨h1, rfl⟩ := hv
  exact ⟨fun ho => s_read ho hp hg ht (rd_rem rfl ha hb h1) h⟩

/-- A nil slice in a row becomes an owned one. -/
structure AdoptC (σ : List AObj) (loc : Nat) (t : TypeId) (c : List AV) (L U sz : Nat) (σ' : List AObj) : Prop where
  row : σ'[loc]? = some (.row t c)
  arr : σ'[L]? = some (.arr U sz 0 [])
  ne : L ≠ loc
  keep' : ∀ k o, σ[k]? = some o → k ≠ loc → σ'[k]? = some o
  fresh : ∀ k o, σ[k]? = some o → k ≠ L
theorem AdoptC.keep {loc t L U sz k : Nat} {c : List AV} {o : AObj} (h : AdoptC σ loc t c L U sz σ') (hk : k ≠ loc) (e : σ[k]? = some o) : σ'[k]? = some o := h.keep' k o e hk
theorem o_adoptC (loc j U sz : Nat) {t : TypeId} {cells : List AV} (hl : σ[loc]? = some (.row t cells)) (hj : cells[j]? = some (.d .nil))
    (h : ∀ L σ', AdoptC σ loc t (cells.set j (.own L 0 sz 0 0)) L U sz σ' → ALo P nt ops dr dos ends i o l Q fr σ') : ALo P nt ops dr dos ends i o l Q fr σ := by
  refine ⟨fun ho => al_ghost (ghost_adopt_cell (U := U) (sz := sz) hl hj) ((h σ.length _ ?_).out ho)⟩
  have hlt := (List.getElem?_eq_some_iff.1 hl).1
  refine ⟨?_, ?_, by omega, fun k o e hk => ?_, fun k o e => ?_⟩
  · rw [List.getElem?_set_self (by simp; omega)]
  · rw [List.getElem?_set_ne (by omega)]; simp
  · rw [List.getElem?_set_ne (Ne.symm hk), List.getElem?_append_left (List.getElem?_eq_some_iff.1 e).1]; exact e
  · have := (List.getElem?_eq_some_iff.1 e).1; omega
end
end Go.Proofs.Ytciciaikajdenaa
