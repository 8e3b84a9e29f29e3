/- WorldTells, as a plain law. No program in sight. -/
import Derived.Test.YtlpgekodoiioaaaP7
import Derived.Test.YtlpgekodoiioaaaLb
set_option linter.unusedSimpArgs false
set_option linter.unusedVariables false
namespace Go.Proofs.Ytlpgekodoiioaaa

/-- What the replay knows: the texts by name, the handles' names, where they stand. -/
structure RS where
  M : List (ByteArray × ByteArray)
  N : List ByteArray
  P : List Nat

inductive Step : RS → AOp → RS → Prop
  | open_ (M N P name x t) (h : getA name M = some t) : Step ⟨M, N, P⟩ ⟨1, (N.length : Nat), name, x, true⟩ ⟨M, N ++ [name], P ++ [0]⟩
  | closed (S name x) : Step S ⟨1, -1, name, x, false⟩ S
  | write (M N P) (i : Nat) (name nm x t) (h1 : N[i]? = some name) (h : getA name M = some t) (hs : (t ++ x).size ≤ 4000) : Step ⟨M, N, P⟩ ⟨3, i, nm, x, true⟩ ⟨putA name (t ++ x) M, N, P⟩
  | unwritten (M N P) (i : Nat) (name nm x) (h1 : N[i]? = some name) : Step ⟨M, N, P⟩ ⟨3, i, nm, x, false⟩ ⟨M, N, P⟩
  | unread (M N P) (i : Nat) (name nm) (h1 : N[i]? = some name) : Step ⟨M, N, P⟩ ⟨2, i, nm, emptyB, false⟩ ⟨M, N, P⟩
  | shut (M N P) (i : Nat) (name nm x ok) (h1 : N[i]? = some name) : Step ⟨M, N, P⟩ ⟨4, i, nm, x, ok⟩ ⟨M, N, P⟩
  | readE (M N P) (i : Nat) (name nm x t p rest) (h1 : N[i]? = some name) (h : getA name M = some t) (hp : P[i]? = some p) (hl : p ≤ t.size) (ht : t.size ≤ 4000) (hr : t.extract p t.size = rest)
      (hs : x.size = rest.size) (hx : rest.extract 0 x.size = x) (hn : (lineOf x.data.toList).2 = false) : Step ⟨M, N, P⟩ ⟨2, i, nm, x, true⟩ ⟨M, N, P.set i (p + x.size)⟩
  | readL (M N P) (i : Nat) (name nm x t p rest) (h1 : N[i]? = some name) (h : getA name M = some t) (hp : P[i]? = some p) (hl : p ≤ t.size) (ht : t.size ≤ 4000) (hr : t.extract p t.size = rest)
      (hs : x.size < rest.size) (hx : rest.extract 0 x.size = x) (hn : (lineOf x.data.toList).2 = false) (hy : rest.data.toList[x.size]? = some 10) : Step ⟨M, N, P⟩ ⟨2, i, nm, x, true⟩ ⟨M, N, P.set i (p + x.size + 1)⟩

def Told : RS → List AOp → RS → Prop
  | S, [], S' => S' = S
  | S, o :: l, S' => ∃ S1, Step S o S1 ∧ Told S1 l S'

theorem told_snoc {S2 S3 : RS} {o : AOp} (h2 : Step S2 o S3) : ∀ {l : List AOp} {S : RS}, Told S l S2 → Told S (l ++ [o]) S3
  | [], S, h => by cases h; exact ⟨_, h2, rfl⟩
  | a :: l, S, ⟨S1, h3, h4⟩ => ⟨S1, h3, told_snoc h2 h4⟩

def filesM (l : List AFile) : List (ByteArray × ByteArray) := l.map fun f => (f.name, f.text)
def rsF (files : List AFile) (hs : List AHandle) : RS := ⟨filesM files, hs.map fun x => (files.getD x.file ⟨emptyB, emptyB⟩).name, hs.map (·.pos)⟩
def AW.rs (W : AW) : RS := rsF W.files W.handles

/-- No two files of one name. -/
def Apart (l : List AFile) : Prop := (l.map (·.name)).Nodup

theorem getA_files : ∀ {l : List AFile} {i : Nat} {f : AFile}, Apart l → l[i]? = some f → getA f.name (filesM l) = some f.text
  | a :: l, 0, f, _, h => by
    injection h with h; subst h
    simp [filesM, getA]
  | a :: l, i + 1, f, hn, h => by
    have h : l[i]? = some f := h
    unfold Apart at hn
    rw [List.map_cons, List.nodup_cons] at hn
    have hne : ¬ f.name = a.name := fun e => hn.1 (by rw [← e]; exact List.mem_map.2 ⟨f, List.mem_of_getElem? h, rfl⟩)
    have ih := getA_files hn.2 h
    rw [show filesM (a :: l) = (a.name, a.text) :: filesM l from rfl]
    unfold getA
    rw [if_neg hne]
    exact ih
theorem putA_files {t : ByteArray} : ∀ {l : List AFile} {i : Nat} {f : AFile}, Apart l → l[i]? = some f → putA f.name t (filesM l) = filesM (l.set i { f with text := t })
  | a :: l, 0, f, _, h => by
    injection h with h; subst h
    simp [filesM, putA]
  | a :: l, i + 1, f, hn, h => by
    have h : l[i]? = some f := h
    unfold Apart at hn
    rw [List.map_cons, List.nodup_cons] at hn
    have hne : ¬ f.name = a.name := fun e => hn.1 (by rw [← e]; exact List.mem_map.2 ⟨f, List.mem_of_getElem? h, rfl⟩)
    have ih := putA_files (t := t) hn.2 h
    rw [show filesM (a :: l) = (a.name, a.text) :: filesM l from rfl, List.set_cons_succ, show ∀ m, filesM (a :: m) = (a.name, a.text) :: filesM m from fun _ => rfl, ← ih]
    conv => lhs; unfold putA
    rw [if_neg hne]

theorem names_set {l : List AFile} {i : Nat} {f : AFile} {t : ByteArray} (h : l[i]? = some f) : (l.set i { f with text := t }).map (·.name) = l.map (·.name) := by
  apply List.ext_getElem?
  intro j
  by_cases e : i = j
  · subst e
    have hlt := (List.getElem?_eq_some_iff.1 h).1
    simp only [List.getElem?_map, List.getElem?_set_self hlt, h, Option.map_some]
  · simp [e]

theorem apart_new {files : List AFile} (h : NewOk files) : Apart files := by
  unfold Apart
  rw [List.Nodup, List.pairwise_iff_getElem]
  intro i j hi hj hij
  simp only [List.length_map] at hi hj
  have h2 := (h.2 j files[j] (List.getElem?_eq_getElem hj)).2 files[i] (by
    rw [List.mem_take_iff_getElem]
    exact ⟨i, by omega, rfl⟩)
  simpa using h2

theorem ba_ext {a b : ByteArray} (h : a.data.toList = b.data.toList) : a = b := by
  cases a; cases b
  simp only at h
  congr
  exact Array.ext' h

/-- What holds of the world's own words. -/
structure TInv (files : List AFile) (W : AW) : Prop where
  names : W.files.map (·.name) = files.map (·.name)
  told : Told (rsF files []) W.trace W.rs

theorem rs_handle {W : AW} {i : Nat} {x y : AHandle} (h : W.handles[i]? = some x) (hf : y.file = x.file) : rsF W.files (W.handles.set i y) = ⟨W.rs.M, W.rs.N, W.rs.P.set i y.pos⟩ := by
  unfold AW.rs rsF
  simp only [RS.mk.injEq, true_and]
  constructor
  · apply List.ext_getElem?
    intro j
    by_cases e : i = j
    · subst e
      have hlt := (List.getElem?_eq_some_iff.1 h).1
      simp only [List.getElem?_map, List.getElem?_set_self hlt, h, Option.map_some, hf]
    · simp [e]
  · rw [List.map_set]
theorem set_self' {α : Type} {l : List α} {i : Nat} {x : α} (h : l[i]? = some x) : l.set i x = l := by
  apply List.ext_getElem?
  intro j
  by_cases e : i = j
  · subst e
    have hlt := (List.getElem?_eq_some_iff.1 h).1
    rw [List.getElem?_set_self hlt, h]
  · rw [List.getElem?_set_ne e]

section
variable {files : List AFile} {W : AW} {n : Nat}

theorem t_goes (h : TInv files W) : TInv files W.goes.2 := ⟨by rw [goes_files]; exact h.names, by unfold AW.rs; rw [goes_files, goes_trace, goes_handles]; exact h.told⟩

/-- A step. -/
theorem t_step {W' : AW} {o : AOp} (h : TInv files W) (hn : W'.files.map (·.name) = W.files.map (·.name)) (ht : W'.trace = W.trace ++ [o]) (hs : Step W.rs o W'.rs) : TInv files W' :=
  ⟨hn.trans h.names, by rw [ht]; exact told_snoc hs h.told⟩

theorem apart_of (h : TInv files W) (ha : Apart files) : Apart W.files := by
  unfold Apart; rw [h.names]; exact ha

theorem t_open (h : TInv files W) (ha : Apart files) (name : ByteArray) : TInv files (W.open_ name).2 := by
  unfold AW.open_
  split
  · rename_i i hg hi
    obtain ⟨f, hf, rfl⟩ := nameIdx_lt hi
    refine t_step h (by simp [AW.note, goes_files]) (o := ⟨1, (W.handles.length : Nat), f.name, emptyB, true⟩) (by simp only [AW.note, goes_trace]) ?_
    have hg := getA_files (apart_of h ha) hf
    have e : rsF W.files (W.handles ++ [⟨i, 0, false⟩]) = ⟨W.rs.M, W.rs.N ++ [f.name], W.rs.P ++ [0]⟩ := by
      unfold AW.rs rsF
      simp [hf]
    show Step W.rs _ (rsF W.goes.2.files (W.handles ++ [⟨i, 0, false⟩]))
    rw [goes_files, e]
    have hl : W.handles.length = W.rs.N.length := by simp [AW.rs, rsF]
    rw [hl]
    exact .open_ _ _ _ _ _ _ hg
  · refine t_step h (by simp [AW.note, goes_files]) (o := ⟨1, -1, name, emptyB, false⟩) (by simp only [AW.note, goes_trace]) ?_
    show Step W.rs _ (rsF W.goes.2.files W.goes.2.handles)
    rw [goes_files, goes_handles]
    exact .closed _ _ _

/-- A good handle. -/
theorem rs_at (ok : W.Ok n) (ha : Apart W.files) {i : Nat} (hx : W.handles[i]? = some (W.handle i)) :
    W.files[(W.handle i).file]? = some (W.file (W.handle i).file) ∧ W.rs.N[i]? = some (W.file (W.handle i).file).name ∧ W.rs.P[i]? = some (W.handle i).pos ∧ getA (W.file (W.handle i).file).name W.rs.M = some (W.file (W.handle i).file).text ∧
      (W.handle i).pos ≤ (W.file (W.handle i).file).text.size ∧ (W.file (W.handle i).file).text.size ≤ 4000 := by
  obtain ⟨h1, h2⟩ := ok.files _ (List.mem_of_getElem? hx)
  have hf : W.files[(W.handle i).file]? = some (W.file (W.handle i).file) := by
    unfold AW.file
    rw [List.getD_eq_getElem?_getD, List.getElem?_eq_getElem h1]; rfl
  refine ⟨hf, ?_, ?_, getA_files ha hf, h2, ok.texts _ (List.mem_of_getElem? hf)⟩
  · show (W.handles.map _)[i]? = _
    rw [List.getElem?_map, hx]; rfl
  · show (W.handles.map _)[i]? = _
    rw [List.getElem?_map, hx]; rfl

theorem t_close (h : TInv files W) (ok : W.Ok n) (ha : Apart files) (x : Int) : TInv files (W.close x).2 := by
  unfold AW.close
  split
  · exact h
  · rename_i hw
    obtain ⟨i, rfl, hi, hx, hs⟩ := wrong_handle hw
    obtain ⟨_, hN, hP, _⟩ := rs_at ok (apart_of h ha) hx
    refine t_step h (o := ⟨4, (i : Nat), emptyB, emptyB, W.goes.1⟩) (by simp [AW.note, AW.setHandle, goes_files]) (by simp only [AW.note, AW.setHandle, goes_trace]) ?_
    show Step W.rs _ (rsF W.goes.2.files (W.goes.2.handles.set i { W.handle i with shut := true }))
    rw [goes_files, goes_handles, rs_handle (y := { W.handle i with shut := true }) hx rfl, set_self' hP]
    exact .shut _ _ _ _ _ _ _ _ hN

theorem t_drop (h : TInv files W) (ok : W.Ok n) (ha : Apart files) (x : Int) : TInv files (W.drop x).2 := by
  unfold AW.drop
  split
  · exact h
  · rename_i hw
    obtain ⟨i, rfl, hi, hx, hs⟩ := wrong_handle hw
    obtain ⟨_, hN, hP, _⟩ := rs_at ok (apart_of h ha) hx
    refine ⟨h.names, ?_⟩
    show Told _ W.trace (rsF W.files (W.handles.set i { W.handle i with shut := true }))
    rw [rs_handle (y := { W.handle i with shut := true }) hx rfl, set_self' hP]
    exact h.told

theorem t_write (h : TInv files W) (ok : W.Ok n) (ha : Apart files) (x : Int) (s : ByteArray) : TInv files (W.write x s).2 := by
  unfold AW.write
  split
  · exact h
  · rename_i hw
    obtain ⟨i, rfl, hi, hx, hs⟩ := wrong_handle hw
    obtain ⟨hf, hN, hP, hM, hl, h4⟩ := rs_at ok (apart_of h ha) hx
    simp only [Int.toNat_natCast]
    by_cases hok : (W.goes.1 && decide (s.size + (W.file (W.handle i).file).text.size ≤ 4000)) = true
    · rw [if_pos hok, hok]
      rw [Bool.and_eq_true, decide_eq_true_eq] at hok
      refine t_step h (o := ⟨3, (i : Nat), emptyB, s, true⟩) (by simp only [AW.note, goes_files]; exact names_set hf) (by simp only [AW.note, goes_trace]) ?_
      show Step W.rs _ (rsF (W.files.set (W.handle i).file { W.file (W.handle i).file with text := (W.file (W.handle i).file).text ++ s }) W.goes.2.handles)
      rw [goes_handles]
      have e : rsF (W.files.set (W.handle i).file { W.file (W.handle i).file with text := (W.file (W.handle i).file).text ++ s }) W.handles = ⟨putA (W.file (W.handle i).file).name ((W.file (W.handle i).file).text ++ s) W.rs.M, W.rs.N, W.rs.P⟩ := by
        unfold AW.rs rsF
        simp only [RS.mk.injEq, and_true]
        refine ⟨(putA_files (apart_of h ha) hf).symm, ?_⟩
        apply List.map_congr_left
        intro y hy
        have hyl := (ok.files y hy).1
        have := congrArg (fun l => l[y.file]?) (names_set (t := (W.file (W.handle i).file).text ++ s) hf)
        simp only [List.getElem?_map] at this
        simp only [List.getD_eq_getElem?_getD]
        have hlt : y.file < (W.files.set (W.handle i).file { W.file (W.handle i).file with text := (W.file (W.handle i).file).text ++ s }).length := by simpa using hyl
        rw [List.getElem?_eq_getElem hlt, List.getElem?_eq_getElem hyl] at this ⊢
        simpa using this
      rw [e]
      exact .write _ _ _ _ _ _ _ _ hN hM (by simp only [ByteArray.size_append]; omega)
    · rw [if_neg hok]
      have hok : (W.goes.1 && decide (s.size + (W.file (W.handle i).file).text.size ≤ 4000)) = false := by simpa using hok
      rw [hok]
      refine t_step h (o := ⟨3, (i : Nat), emptyB, s, false⟩) (by simp only [AW.note, goes_files]) (by simp only [AW.note, goes_trace]) ?_
      show Step W.rs _ (rsF W.goes.2.files W.goes.2.handles)
      rw [goes_files, goes_handles]
      exact .unwritten _ _ _ _ _ _ _ hN

theorem lineOf_clean : ∀ l : List UInt8, (lineOf (lineOf l).1).2 = false
  | [] => rfl
  | b :: l => by
    by_cases e : b = 10
    · have : lineOf (b :: l) = ([], true) := by rw [lineOf, if_pos e]
      rw [this]; rfl
    · have : lineOf (b :: l) = (b :: (lineOf l).1, (lineOf l).2) := by rw [lineOf, if_neg e]
      rw [this]
      show (lineOf (b :: (lineOf l).1)).2 = false
      rw [lineOf, if_neg e]
      exact lineOf_clean l

theorem take_of_app {L a tl : List UInt8} (h : L = a ++ 10 :: tl) : L.take a.length = a := by subst h; simp
theorem get_of_app {L a tl : List UInt8} (h : L = a ++ 10 :: tl) : L[a.length]? = some 10 := by subst h; simp

theorem t_read (h : TInv files W) (ok : W.Ok n) (ha : Apart files) (x : Int) : TInv files (W.read x).2 := by
  unfold AW.read
  split
  · exact h
  · rename_i hw
    obtain ⟨i, rfl, hi, hx, hs⟩ := wrong_handle hw
    obtain ⟨hf, hN, hP, hM, hl, h4⟩ := rs_at ok (apart_of h ha) hx
    split
    · refine t_step h (o := ⟨2, (i : Nat), emptyB, emptyB, false⟩) (by simp only [AW.note, goes_files]) (by simp only [AW.note, goes_trace]) ?_
      show Step W.rs _ (rsF W.goes.2.files W.goes.2.handles)
      rw [goes_files, goes_handles]
      exact .unread _ _ _ _ _ _ hN
    · simp only [Int.toNat_natCast]
      have hTl : (W.file (W.handle i).file).text.toList.length = (W.file (W.handle i).file).text.size := by rw [Go.Lib.toList_data, ← Go.Lib.size_eq]
      have hrest : ((W.file (W.handle i).file).text.extract (W.handle i).pos (W.file (W.handle i).file).text.size).data.toList = (W.file (W.handle i).file).text.toList.drop (W.handle i).pos := by
        rw [Go.Lib.toList_data, ByteArray.data_extract]
        simp only [Array.toList_extract, List.extract_eq_take_drop]
        exact List.take_of_length_le (by rw [List.length_drop, ← Go.Lib.size_eq]; omega)
      have hrs : ((W.file (W.handle i).file).text.extract (W.handle i).pos (W.file (W.handle i).file).text.size).size = (W.file (W.handle i).file).text.size - (W.handle i).pos := by simp
      by_cases hL : (W.file (W.handle i).file).text.toList.drop (W.handle i).pos = []
      · rw [if_pos hL]
        have hz : (W.file (W.handle i).file).text.size - (W.handle i).pos = 0 := by rw [← hTl, ← List.length_drop, hL]; rfl
        refine t_step h (o := ⟨2, (i : Nat), emptyB, emptyB, true⟩) (by simp only [AW.note, goes_files]) (by simp only [AW.note, goes_trace]) ?_
        show Step W.rs _ (rsF W.goes.2.files W.goes.2.handles)
        rw [goes_files, goes_handles]
        have := Step.readE W.rs.M W.rs.N W.rs.P i _ emptyB emptyB (W.file (W.handle i).file).text (W.handle i).pos _ hN hM hP hl h4 rfl (by rw [hrs, hz]; rfl) (ba_ext (by rw [ByteArray.data_extract]; simp [emptyB]; exact .inr (by omega))) rfl
        rw [show (W.handle i).pos + emptyB.size = (W.handle i).pos from rfl, set_self' hP] at this
        exact this
      · rw [if_neg hL]
        obtain ⟨hm, hsp⟩ := lineOf_spec ((W.file (W.handle i).file).text.toList.drop (W.handle i).pos)
        have hcl := lineOf_clean ((W.file (W.handle i).file).text.toList.drop (W.handle i).pos)
        have hlen : ((W.file (W.handle i).file).text.toList.drop (W.handle i).pos).length = (W.file (W.handle i).file).text.size - (W.handle i).pos := by rw [List.length_drop, hTl]
        obtain ⟨L, hLL⟩ : ∃ L, (W.file (W.handle i).file).text.toList.drop (W.handle i).pos = L := ⟨_, rfl⟩
        show TInv files ((W.goes.2.setHandle i { W.handle i with pos := (W.handle i).pos + (lineOf ((W.file (W.handle i).file).text.toList.drop (W.handle i).pos)).1.length + (if (lineOf ((W.file (W.handle i).file).text.toList.drop (W.handle i).pos)).2 then 1 else 0) }).note ⟨2, (i : Nat), emptyB, bytesOf (lineOf ((W.file (W.handle i).file).text.toList.drop (W.handle i).pos)).1, true⟩)
        rw [hLL] at hm hsp hcl hlen hrest ⊢
        have hbs : (bytesOf (lineOf L).1).size = (lineOf L).1.length := by simp [bytesOf, ByteArray.size]
        have hbd : (bytesOf (lineOf L).1).data.toList = (lineOf L).1 := by simp [bytesOf]
        have hpre : L.take (lineOf L).1.length = (lineOf L).1 := by
          rcases hsp with ⟨_, e⟩ | ⟨_, e⟩
          · rw [e, List.take_length]
          · exact take_of_app e
        have hx2 : ((W.file (W.handle i).file).text.extract (W.handle i).pos (W.file (W.handle i).file).text.size).extract 0 (bytesOf (lineOf L).1).size = bytesOf (lineOf L).1 := ba_ext (by
          rw [ByteArray.data_extract, hbd, hbs]
          simp only [Array.toList_extract, List.extract_eq_take_drop, List.drop_zero, Nat.sub_zero]
          rw [hrest]; exact hpre)
        refine t_step h (o := ⟨2, (i : Nat), emptyB, bytesOf (lineOf L).1, true⟩) (by simp only [AW.note, AW.setHandle, goes_files]) (by simp only [AW.note, AW.setHandle, goes_trace]) ?_
        show Step W.rs _ (rsF W.goes.2.files (W.goes.2.handles.set i { W.handle i with pos := (W.handle i).pos + (lineOf L).1.length + (if (lineOf L).2 then 1 else 0) }))
        rw [goes_files, goes_handles, rs_handle (y := { W.handle i with pos := (W.handle i).pos + (lineOf L).1.length + (if (lineOf L).2 then 1 else 0) }) hx rfl]
        rcases hsp with ⟨e1, e2⟩ | ⟨e1, e2⟩
        · rw [e1]
          have := Step.readE W.rs.M W.rs.N W.rs.P i _ emptyB (bytesOf (lineOf L).1) (W.file (W.handle i).file).text (W.handle i).pos _ hN hM hP hl h4 rfl (by rw [hrs, hbs, e2]; exact hlen) hx2 (by rw [hbd]; exact hcl)
          rw [hbs] at this
          exact this
        · rw [e1]
          have hlt : (lineOf L).1.length < L.length := by
            have := congrArg List.length e2
            simp at this; omega
          have := Step.readL W.rs.M W.rs.N W.rs.P i _ emptyB (bytesOf (lineOf L).1) (W.file (W.handle i).file).text (W.handle i).pos _ hN hM hP hl h4 rfl (by rw [hrs, hbs]; omega) hx2 (by rw [hbd]; exact hcl) (by
            rw [hbs, hrest]; exact get_of_app e2)
          rw [hbs] at this
          exact this

theorem t_do (h : TInv files W) (ok : W.Ok n) (ha : Apart files) (x : ADo) : TInv files (doW W x) := by
  unfold doW
  split
  · exact t_open h ha _
  · split
    · exact t_read h ok ha _
    · split
      · exact t_write h ok ha _ _
      · split
        · exact t_close h ok ha _
        · split
          · exact t_drop h ok ha _
          · exact h
theorem t_run : ∀ {l : List ADo} {W : AW} {n : Nat}, TInv files W → W.Ok n → Apart files → TInv files (runW W l)
  | [], _, _, h, _, _ => h
  | x :: l, W, n, h, ok, ha => t_run (l := l) (t_do h ok ha x) (ok_step ok x) ha
theorem t_new (fails : List Bool) : TInv files ⟨files, fails, [], []⟩ := ⟨rfl, rfl⟩
end
end Go.Proofs.Ytlpgekodoiioaaa
