/- New. -/
import Derived.Test.YtlpgekodoiioaaaA15
set_option linter.unusedSimpArgs false
set_option linter.unusedVariables false
namespace Go.Proofs.Ytlpgekodoiioaaa
open Go.RowKit Classical

/-- May a world begin with these files? -/
def NewOk (files : List AFile) : Prop := files.length ≤ 20 ∧ ∀ k f, files[k]? = some f → f.text.size ≤ 4000 ∧ ∀ g ∈ files.take k, g.name ≠ f.name

theorem idxI_neg (name : ByteArray) (l : List AFile) : idxI name l < 0 ↔ ∀ g ∈ l, g.name ≠ name := by
  constructor
  · intro h g hg q
    induction l with
    | nil => cases hg
    | cons a l ih =>
      unfold idxI nameIdx at h
      by_cases e : a.name = name
      · rw [if_pos e] at h; simp at h
      · rw [if_neg e] at h
        rcases List.mem_cons.1 hg with rfl | hg
        · exact e q
        · refine ih ?_ hg
          unfold idxI
          cases hq : nameIdx name l with
          | none => simp
          | some j => rw [hq] at h; simp at h; omega
  · intro h
    unfold idxI
    rw [nameIdx_none name l h]
    simp

theorem abs_wp_p {P : Program} {c : Code} {Q : Exit → Act → World → Prop} {A : Act} {w : World} {p : World → Prop} (h : p w) (k : ∀ w, p w → c.wp P Q A w) : c.wp P Q A w := k w h

section
variable {W0 w : World} {L : List HProp}

theorem rd_take {v : Value} {a : Option Addr} {cap : Nat} {fs : List AFile} {k : Nat} (h : rd w 2 (.slice a fs.length cap) fs.length (fs.flatMap fCells)) (hk : k < fs.length) :
    rd w 2 (.slice a k cap) (fs.take k).length ((fs.take k).flatMap fCells) ∧ (∃ b off, a = some ⟨b, off, none⟩) ∧ k ≤ cap := by
  have hl : (fs.take k).length = k := by rw [List.length_take]; omega
  obtain ⟨h1, ⟨_, h0⟩ | ⟨b, off, cap', e, h2, h3, h4⟩⟩ := h
  · omega
  · injection e with e1 _ e3
    subst e1 e3
    refine ⟨⟨flat_len' fCells_len _, .inr ⟨b, off, cap, by rw [hl], by omega, fun hp => h3 ?_, fun j u hj => h4 j u ?_⟩⟩, ⟨b, off, rfl⟩, by omega⟩
    · rw [h1]; omega
    · have : fs.flatMap fCells = (fs.take k).flatMap fCells ++ (fs.drop k).flatMap fCells := by rw [← List.flatMap_append, List.take_append_drop]
      rw [this, List.getElem?_append_left (List.getElem?_eq_some_iff.1 hj).1]
      exact hj

def NewP (W0 : World) (L : List HProp) (files : List AFile) (fails : List Bool) (e : Ending) (w' : World) : Prop :=
  (NewOk files ∧ ∃ q, e = .returned (.tuple #[.pointer (some ⟨q, 0, none⟩), .int .i64 0]) ∧ St W0 w' (worldAt q ⟨files, fails, [], []⟩ :: L)) ∨
  (¬ NewOk files ∧ e = .returned (.tuple #[.pointer none, .int .i64 2]) ∧ St W0 w' L)

def NewRel (W0 w0 : World) (L : List HProp) (fs : List AFile) (i : Value) (wr : World) : Prop :=
  ∃ k : Nat, k ≤ fs.length ∧ i = .int .i64 k ∧ (∀ j f, j < k → fs[j]? = some f → f.text.size ≤ 4000 ∧ ∀ g ∈ fs.take j, g.name ≠ f.name) ∧ St W0 wr L ∧ Below w0.heap.size w0 wr

set_option maxRecDepth 100000 in
set_option maxHeartbeats 1000000 in
theorem new_c {vf vb : Value} {files : List AFile} {fails : List Bool} (h : St W0 w L) (hr : rd w 2 vf files.length (files.flatMap fCells)) (hb : rd w 1 vb fails.length (boolsV fails)) (hnb : fails.length ≤ 100000) :
    Calls Try.prog 12 #[vf, vb] w fun e w' => NewP W0 L files fails e w' := by
  unfold NewP
  obtain ⟨a, cap, rfl⟩ : ∃ a cap, vf = .slice a files.length cap := by
    obtain ⟨_, ⟨⟨a, c, e⟩, h0⟩ | ⟨b, off, cap, e, _⟩⟩ := hr
    · exact ⟨a, c, by rw [h0]; exact e⟩
    · exact ⟨_, _, e⟩
  have HS := Lib.hid h
  have HR := Lib.hid hr
  have HB := Lib.hid hb
  have hmf : ∀ (fn : Fn) (first cap : Array Value) (w : World), (Instr.makeFunc fn first cap).run Try.prog w = .ok (.func fn first cap) w := fun _ _ _ _ => rfl
  clear h hr hb
  by_cases h20 : files.length ≤ 20
  · go_enter Try.func12, Try.ntmps12
    go_wp2
    go_loopw [13] (fun i wr => NewRel W0 w L files i wr) (fun i _ => files.length - (intOf i).toNat)
    case atStart => exact ⟨0, Nat.zero_le _, rfl, fun j f hj => absurd hj (Nat.not_lt_zero _), HS.out, Below.refl _ _⟩
    case round =>
      obtain ⟨k, hk, rfl, hall, S, hbl⟩ := hrel
      by_cases hlt : k < files.length
      · obtain ⟨f, hf⟩ : ∃ f, files[k]? = some f := ⟨_, List.getElem?_eq_getElem hlt⟩
        have R := HR.out.mono hbl
        obtain ⟨RT, ⟨b, off, rfl⟩, hkc⟩ := rd_take (v := .bool true) R hlt
        have hk0 : (0 : Int) ≤ (k : Int) := by omega
        have hk1 : (k : Int) ≤ (cap : Int) := by omega
        obtain ⟨c0, c1⟩ := rd_file R hf
        have S2 := S.allocC #[Value.string f.name, .string f.text] 62
        have hb2 := (Below.refl _ wr).alloc (Nat.le_refl _) (.cells #[Value.string f.name, .string f.text] 62)
        have HS2 := Lib.hid (And.intro S2 hb2)
        have HF := Lib.hid hf
        have HALL := Lib.hid (And.intro hall hbl)
        have HRT := Lib.hid RT
        clear S S2 hb2 hf hall hbl R RT HS
        go_upto_region 6 with fail
        generalize hc : wr.heap.size = c at HS2 ⊢
        refine abs_wp_p (p := fun w2 => St W0 w2 (cellsB c #[Value.string f.name, .string f.text] 62 :: L) ∧ Below c wr w2) HS2.out ?_
        clear HS2
        rintro w2 ⟨S, hb2⟩
        have HA := Lib.hid (has32_c S (HRT.out.mono (by rw [hc]; exact hb2)) (by rw [List.length_take]; omega))
        have d0 := S.cell
        have HS := Lib.hid (And.intro S hb2)
        clear S hb2 c0 c1
        by_cases h4 : f.text.size ≤ 4000
        · have h4' : ¬ ((4000 : Int) < (f.text.size : Int)) := by omega
          by_cases hd : 0 ≤ idxI f.name (files.take k)
          · go_wp2_with (go_at_call 32; refine HA.out.mono ?_; rintro e w' ⟨rfl, S, hb⟩; have HS3 := Lib.hid S; clear S hb)
            go_ret2
            exact .inr ⟨fun q => absurd ((idxI_neg _ _).2 (q.2 k f HF.out).2) (by omega), rfl, HS3.out.tail⟩
          · go_wp2_with (go_at_call 32; refine HA.out.mono ?_; rintro e w' ⟨rfl, S, hb⟩; have HS3 := Lib.hid (And.intro S hb); clear S hb)
            refine ⟨⟨k + 1, by omega, by go_num, ?_, HS3.out.1.tail, HALL.out.2.trans ((HS.out.2.trans (HS3.out.2.mono (by have := HS.out.2.size; omega))).mono (by have := HALL.out.2.size; omega))⟩, by simp [intOf]; omega⟩
            intro j f2 hj hf2
            by_cases e : j = k
            · subst e
              rw [HF.out] at hf2
              injection hf2 with hf2
              subst hf2
              exact ⟨h4, (idxI_neg _ _).1 (by omega)⟩
            · exact HALL.out.1 j f2 (by omega) hf2
        · have h4' : ((4000 : Int) < (f.text.size : Int)) := by omega
          go_wp2_with fail
          go_ret2
          exact .inr ⟨fun q => absurd (q.2 k f HF.out).1 h4, rfl, HS.out.1.tail⟩
      · have hk' : k = files.length := by omega
        subst hk'
        have ok : NewOk files := ⟨h20, fun j f hj => hall j f (List.getElem?_eq_some_iff.1 hj).1 hj⟩
        have C1 := Lib.hid (clone34_c (St.refl wr) (HR.out.mono hbl) (one_flat one_fCells _) (by omega))
        have C2 := Lib.hid fun w1 (h1 : Below wr.heap.size wr w1) => clone35_c (St.refl w1) ((HB.out.mono hbl).mono h1) (one_boolsV _) (by omega)
        have HOK := Lib.hid (And.intro ok S)
        clear S hall hbl ok HS
        go_wp2_with (first | (go_at_call 34; refine C1.out.mono ?_; rintro e w1 ⟨v1, rfl, S1⟩; obtain ⟨x1, y1, rfl, _⟩ := S1.own_form; have HS1 := Lib.hid S1; clear S1 C1) | (go_at_call 35; refine (C2.out _ HS1.out.below).mono ?_; rintro e w2 ⟨v2, rfl, S2⟩; obtain ⟨x2, y2, rfl, _⟩ := S2.own_form; have HS2 := Lib.hid S2; clear S2))
        have S := ((HOK.out.2.chain HS1.out).chain HS2.out).allocC #[.slice x1 files.length y1, .slice x2 fails.length y2, .slice none 0 0, .slice none 0 0] 78
        go_ret2
        refine .inl ⟨HOK.out.1, _, rfl, ?_⟩
        -- [q, fails, files, L]
        have T := ((((S.pull 1).own_tail).pull 2).pull 2)
        have T2 := ((((T.own_nil (T := 68) (sz := 5)).own_nil (T := 86) (sz := 3)).pull 4).pull 4).pull 4
        simp only [pull] at T2
        exact St.world_close (W := ⟨files, fails, [], []⟩) T2
  · go_enter Try.func12, Try.ntmps12
    go_wp2
    go_ret2
    exact .inr ⟨fun q => h20 q.1, rfl, HS.out⟩
end
end Go.Proofs.Ytlpgekodoiioaaa
