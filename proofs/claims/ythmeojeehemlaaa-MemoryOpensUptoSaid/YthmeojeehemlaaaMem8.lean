/- Package memory: a clone of any bytes; the state of a space; Store. Written by this session. -/
import Derived.Test.YthmeojeehemlaaaMem7
namespace Go.Proofs.Ythmeojeehemlaaa.Mem
open Go.RowKit Go.Lib Go.Proofs.YthmeojeehemlaaaW.PrintWords
open Go.Proofs.Ythmeojeehemlaaa.PM
set_option linter.unusedVariables false
set_option linter.unusedSimpArgs false
/-- bytes at the head of a block -/
structure Dat (w : World) (A : Option Addr) (cap : Nat) (l : List Int) : Prop where
  len : l.length ≤ cap
  small : cap < 9223372036854775808
  row : 0 < l.length → ∃ (d : Nat) (cs : Array Value), A = some ⟨d, 0, none⟩ ∧ Blk w d 5 cs ∧ l.length ≤ cs.size ∧ ∀ i (h : i < l.length), cs[i]? = some (.int .u8 l[i])
theorem Kd.C_byte {w : World} {A : Option Addr} {n : Nat} {l : List Int} (h : Kd.C (Kd.int .u8) w A n l) : l.length = n ∧ ∀ ad, A = some ad → ∀ j, j < l.length → w.cell? (ad.add j) = some (.int .u8 (l.getD j 0)) := by
  refine ⟨h.1, fun ad hA j hj => ?_⟩
  obtain ⟨ad', c, e, _, hK, hc⟩ := Kd.C_get h (0 : Int) (j : Int) (by omega) (by rw [← h.1]; omega)
  have ea : ad' = ad := Option.some.inj (e.symm.trans hA)
  subst ea
  have hc0 : ∀ i u, c[i]? = some u → w.cell? (ad'.add ((j : Int).toNat * 1 + i)) = some u := hc
  have hk : c = [.int .u8 (l.getD (j : Int).toNat 0)] := hK
  have := hc0 0 _ (by rw [hk]; rfl)
  simpa using this
/-- a clone of any bytes -/
theorem cloneAny_ (w : World) (A : Option Addr) (n c : Nat) (l : List Int) (hC : Kd.C (Kd.int .u8) w A n l) (hbig : n ≤ 140737488355328) :
    Calls Try.prog 57 #[.slice A n c] w fun e w' => ∃ A' c', e = .returned (.slice A' l.length c') ∧ Dat w' A' c' l ∧ Below w.heap.size w w' ∧ (0 < l.length → ∀ d, A' = some ⟨d, 0, none⟩ → w.heap.size ≤ d) := by
  obtain ⟨hl, hc⟩ := Kd.C_byte hC
  cases A with
  | none =>
    have h0 : n = 0 := by
      rcases Nat.eq_zero_or_pos n with h | h
      · exact h
      · obtain ⟨ad, _, e, _⟩ := Kd.C_get hC (0 : Int) 0 (by omega) (by omega)
        cases e
    refine (clone_nil n c w).mono ?_
    rintro e w' ⟨rfl, rfl⟩
    have hl0 : l.length = 0 := by omega
    rw [hl0]
    exact ⟨none, 0, rfl, ⟨by omega, by omega, fun h => absurd h (by omega)⟩, Below.refl _ _, fun h => absurd h (by omega)⟩
  | some ad =>
    refine (clone_ ad n c l w hl.symm hbig (hc ad rfl)).mono ?_
    rintro e w' ⟨v', rfl, ho, hne, hb⟩
    rcases ho.2 with ⟨hv, _⟩ | ⟨g, cap, cur, rfl, hg, hh, hnc, hcm, hsz, ht⟩
    · exact absurd hv hne
    · refine ⟨_, cap, by rw [hl], ⟨by omega, by unfold maxLen at hcm; omega, fun hp => ⟨g, cur, rfl, hh, by omega, fun i hi => ?_⟩⟩, hb, fun _ d hd => by cases hd; exact hg⟩
      have e1 : (cur.toList.take (n * 1))[i]? = some (.int .u8 l[i]) := by
        rw [ht, List.getElem?_map, List.getElem?_eq_getElem hi]; rfl
      rw [List.getElem?_take] at e1
      split at e1
      · simpa using e1
      · cases e1
def wlast (f : Int) (n : Nat) : Int := IntKind.u64.wrap (f + (n : Int) - 1)
theorem last_ (w : World) (b : Nat) (f : Int) (A : Option Addr) (n c : Nat) (c0 : w.cell? ⟨b, 0, none⟩ = some (.int .u64 f)) (c1 : w.cell? ⟨b, 1, none⟩ = some (.slice A n c)) :
    Calls Try.prog 59 #[.pointer (some ⟨b, 0, none⟩)] w fun e w' => e = .returned (.int .u64 (wlast f n)) ∧ ∃ m, w' = w.drewN m := by
  have k : IntKind.u64.wrap (IntKind.u64.wrap (f + IntKind.u64.wrap n) - 1) = wlast f n := by
    unfold wlast; simp only [IntKind.wrap_u64]; omega
  go_enter Try.func59, Try.ntmps59
  go_wp2
  go_quiet (fail)
  go_wp2
  go_ret
  exact ⟨rfl, _, rfl⟩
/-- the state of a space from a base on -/
structure St (B : Nat) (w : World) (s : Nat) (rs : List Reg) : Prop where
  sp : ∃ P cap, Blk w s 61 #[.slice P rs.length cap] ∧ RowAt w P cap rs ∧ ∀ p, P = some p → B ≤ p.block
  base : B ≤ s
  data : ∀ r ∈ rs, ∀ d, r.A = some ⟨d, 0, none⟩ → 0 < r.data.length → B ≤ d
  apart : rs.Pairwise fun a b => 0 < a.data.length → 0 < b.data.length → a.A ≠ b.A
  rising : Rising rs
  bytes : AllBytes rs
theorem St.space {B : Nat} {w : World} {s : Nat} {rs : List Reg} (h : St B w s rs) : SpaceAt w s rs := by
  obtain ⟨P, cap, h1, h2, _⟩ := h.sp
  exact ⟨P, cap, h1, h2⟩
theorem St.lt {B : Nat} {w : World} {s : Nat} {rs : List Reg} (h : St B w s rs) : B < w.heap.size := by
  obtain ⟨P, cap, h1, h2, _⟩ := h.sp
  have := h1.lt
  have := h.base
  omega
theorem St.below {B : Nat} {w w' : World} {s : Nat} {rs : List Reg} (h : St B w s rs) (hb : Below w.heap.size w w') : St B w' s rs := by
  obtain ⟨P, cap, h1, h2, h3⟩ := h.sp
  exact ⟨⟨P, cap, h1.below hb h1.lt, h2.below hb, h3⟩, h.base, h.data, h.apart, h.rising, h.bytes⟩
theorem St.drewN {B : Nat} {w : World} {s : Nat} {rs : List Reg} (h : St B w s rs) (n : Nat) : St B (w.drewN n) s rs := h.below (pw_below_drewN (Below.refl _ _) n)
theorem St.drew {B : Nat} {w : World} {s : Nat} {rs : List Reg} (h : St B w s rs) : St B w.drew s rs := h.below (below_drew (Below.refl _ _))
/-- bytes laid into bytes at a place -/
def put (l : List Int) (o : Nat) (bs : List Int) : List Int := l.take o ++ bs ++ l.drop (o + bs.length)
theorem put_length (l : List Int) (o : Nat) (bs : List Int) (h : o + bs.length ≤ l.length) : (put l o bs).length = l.length := by
  unfold put; simp; omega
theorem put_get (l : List Int) (o : Nat) (bs : List Int) (h : o + bs.length ≤ l.length) (i : Nat) : (put l o bs)[i]? = if i < o then l[i]? else if i < o + bs.length then bs[i - o]? else l[i]? := by
  unfold put
  by_cases h1 : i < o
  · rw [if_pos h1, List.getElem?_append_left (by simp; omega), List.getElem?_append_left (by simp; omega), List.getElem?_take, if_pos h1]
  · rw [if_neg h1]
    by_cases h2 : i < o + bs.length
    · rw [if_pos h2, List.getElem?_append_left (by simp; omega), List.getElem?_append_right (by simp; omega)]
      congr 1; simp; omega
    · rw [if_neg h2, List.getElem?_append_right (by simp; omega), List.getElem?_drop]
      congr 1; simp; omega
theorem le_length : ∀ (n : Nat) (x : Int), (le n x).length = n
  | 0, _ => rfl
  | n + 1, x => by simp only [le, List.length_cons, le_length n]
theorem le_get : ∀ (n : Nat) (x : Int) (j : Nat), 0 ≤ x → j < n → (le n x)[j]? = some ((x / 256 ^ j) % 256)
  | n + 1, x, 0, _, _ => by simp [le]
  | n + 1, x, j + 1, h0, h => by
    simp only [le, List.getElem?_cons_succ]
    rw [le_get n (x / 256) j (Int.ediv_nonneg h0 (by decide)) (by omega), Int.pow_succ', ← Int.ediv_ediv_of_nonneg (by decide)]
theorem le_bytes : ∀ (n : Nat) (x : Int), Bytes (le n x)
  | 0, _, b, h => by cases h
  | n + 1, x, b, h => by
    simp only [le, List.mem_cons] at h
    rcases h with rfl | h
    · omega
    · exact le_bytes n _ b h
def upd (r : Reg) (o : Nat) (bs : List Int) (q : Reg) : Reg := if q.first = r.first then { q with data := put q.data o bs } else q
theorem upd_first (r : Reg) (o : Nat) (bs : List Int) (q : Reg) : (upd r o bs q).first = q.first := by unfold upd; split <;> rfl
theorem upd_b (r : Reg) (o : Nat) (bs : List Int) (q : Reg) : (upd r o bs q).b = q.b := by unfold upd; split <;> rfl
theorem upd_A (r : Reg) (o : Nat) (bs : List Int) (q : Reg) : (upd r o bs q).A = q.A := by unfold upd; split <;> rfl
theorem upd_cap (r : Reg) (o : Nat) (bs : List Int) (q : Reg) : (upd r o bs q).cap = q.cap := by unfold upd; split <;> rfl
theorem rising_map (f : Reg → Reg) (hf : ∀ q, (f q).first = q.first) : ∀ rs : List Reg, Rising rs → Rising (rs.map f)
  | [], _ => trivial
  | r :: rs, h => ⟨fun q hq => by
      obtain ⟨q', hq', rfl⟩ := List.mem_map.1 hq
      rw [hf, hf]; exact h.1 q' hq', rising_map f hf rs h.2⟩
theorem rising_uniq (rs : List Reg) (h : Rising rs) (a b : Reg) (ha : a ∈ rs) (hb : b ∈ rs) (e : a.first = b.first) : a = b := by
  obtain ⟨i, hi, rfl⟩ := List.getElem_of_mem ha
  obtain ⟨j, hj, rfl⟩ := List.getElem_of_mem hb
  rcases Nat.lt_trichotomy i j with hij | hij | hij
  · have := rising_at rs h i j hij hj; omega
  · subst hij; rfl
  · have := rising_at rs h j i hij hi; omega
theorem upd_len (rs : List Reg) (hr : Rising rs) (r : Reg) (hm : r ∈ rs) (o : Nat) (bs : List Int) (hl : o + bs.length ≤ r.data.length) (q : Reg) (hq : q ∈ rs) : (upd r o bs q).data.length = q.data.length := by
  unfold upd
  split
  · rename_i e
    rw [rising_uniq rs hr q r hq hm e]
    exact put_length _ _ _ hl
  · rfl
theorem Only.blk {w w' : World} {d : Nat} (h : Only w w' d) {g : Nat} {t : TypeId} {cs : Array Value} (hb : Blk w g t cs) (hne : g ≠ d) : Blk w' g t cs := by
  unfold Blk at hb ⊢
  rw [h.block g hne]; exact hb
theorem Only.below {w w' : World} {d B : Nat} (h : Only w w' d) (hB : B ≤ d) : Below B w w' := ⟨h.os, h.tape, h.output, by rw [h.size]; exact Nat.le_refl _, fun k hk => h.block k (by omega)⟩
theorem Only.from_drewN {w w' : World} {d n : Nat} (h : Only (w.drewN n) w' d) : Only w w' d := ⟨h.os, h.tape, h.output, h.size, h.block⟩
/-- the space behind a store -/
theorem St.stored {B : Nat} {w w' : World} {s : Nat} {rs : List Reg} (h : St B w s rs) (r : Reg) (hm : r ∈ rs) (o : Nat) (bs : List Int) (hbs : Bytes bs) (hl : o + bs.length ≤ r.data.length) (h0 : 0 < r.data.length) (d : Nat) (hA : r.A = some ⟨d, 0, none⟩)
    (cs cs' : Array Value) (hb0 : Blk w d 5 cs) (hdat : ∀ i (h : i < r.data.length), cs[i]? = some (.int .u8 r.data[i])) (hsz0 : r.data.length ≤ cs.size) (hb : Blk w' d 5 cs') (hsz : cs'.size = cs.size) (hin : ∀ j, j < bs.length → cs'[o + j]? = bs[j]?.map (Value.int .u8)) (hout : ∀ j, (j < o ∨ o + bs.length ≤ j) → cs'[j]? = cs[j]?) (hO : Only w w' d) :
    St B w' s (rs.map (upd r o bs)) ∧ Below B w w' := by
  obtain ⟨P, cap, h1, h2, h3⟩ := h.sp
  have far : ∀ g t ds, t ≠ 5 → Blk w g t ds → Blk w' g t ds := fun g t ds ht hg => hO.blk hg (fun e => ht (by subst e; exact hg.uniq hb0))
  have hlen : ∀ q ∈ rs, (upd r o bs q).data.length = q.data.length := fun q hq => upd_len rs h.rising r hm o bs hl q hq
  refine ⟨⟨⟨P, cap, by rw [List.length_map]; exact far _ _ _ (by decide) h1, ⟨by rw [List.length_map]; exact h2.big, by rw [List.length_map]; exact h2.len, h2.small, ?_, ?_⟩, h3⟩, h.base, ?_, ?_, rising_map _ (upd_first r o bs) rs h.rising, ?_⟩, hO.below (h.data r hm d hA h0)⟩
  · rcases h2.row with hn | ⟨p, ps, e, hp, hps, hat⟩
    · exact .inl hn
    · refine .inr ⟨p, ps, e, far _ _ _ (by decide) hp, hps, fun i hi => ?_⟩
      have hi' : i < rs.length := by simpa using hi
      rw [hat i hi']
      simp only [List.getElem_map, upd_b]
  · intro q' hq'
    obtain ⟨q, hq, rfl⟩ := List.mem_map.1 hq'
    have hreg := h2.regs q hq
    have hlq := hlen q hq
    refine ⟨by rw [upd_b, upd_first, upd_A, upd_cap, hlq]; exact far _ _ _ (by decide) hreg.blk, by rw [hlq, upd_cap]; exact hreg.len, by rw [upd_cap]; exact hreg.small, by rw [upd_first]; exact hreg.first0, by rw [upd_first]; exact hreg.first1, fun hp => ?_⟩
    rw [hlq] at hp
    rw [upd_A]
    obtain ⟨d2, cs2, hA2, hb2, hl2, hc2⟩ := hreg.row hp
    by_cases e : q.first = r.first
    · have eq : q = r := rising_uniq rs h.rising q r hq hm e
      subst eq
      refine ⟨d, cs', hA, hb, by rw [hlq, hsz]; exact hsz0, fun i hi => ?_⟩
      have hi' : i < q.data.length := by rw [hlq] at hi; exact hi
      have hg := put_get q.data o bs hl i
      have hd : (upd q o bs q).data = put q.data o bs := by unfold upd; rw [if_pos rfl]
      have hgoal : cs'[i]? = ((put q.data o bs)[i]?).map (Value.int .u8) := by
        rw [hg]
        split
        · rw [hout i (Or.inl (by omega)), hdat i hi', List.getElem?_eq_getElem hi']; rfl
        · split
          · have := hin (i - o) (by omega)
            rw [show o + (i - o) = i by omega] at this
            exact this
          · rw [hout i (Or.inr (by omega)), hdat i hi', List.getElem?_eq_getElem hi']; rfl
      rw [hgoal, ← hd, List.getElem?_eq_getElem hi]
      rfl
    · have hne : d2 ≠ d := by
        intro e2
        subst e2
        have hq_ne : q ≠ r := fun e3 => e (by rw [e3])
        obtain ⟨i, hi, rfl⟩ := List.getElem_of_mem hq
        obtain ⟨j, hj, rfl⟩ := List.getElem_of_mem hm
        have hp2 := List.pairwise_iff_getElem.1 h.apart
        rcases Nat.lt_trichotomy i j with hij | hij | hij
        · exact hp2 i j hi hj hij hp h0 (hA2.trans hA.symm)
        · subst hij; exact hq_ne rfl
        · exact hp2 j i hj hi hij h0 hp (hA.trans hA2.symm)
      have hd : (upd r o bs q).data = q.data := by unfold upd; rw [if_neg e]
      refine ⟨d2, cs2, hA2, hO.blk hb2 hne, by rw [hlq]; exact hl2, fun i hi => ?_⟩
      simp only [hd]
      exact hc2 i (by rw [hlq] at hi; exact hi)
  · intro q' hq' d2 hd2 hp
    obtain ⟨q, hq, rfl⟩ := List.mem_map.1 hq'
    rw [upd_A] at hd2
    rw [hlen q hq] at hp
    exact h.data q hq d2 hd2 hp
  · refine List.pairwise_map.2 ?_
    refine List.Pairwise.imp_of_mem ?_ h.apart
    intro a b ha hb hab hla hlb
    rw [hlen a ha] at hla
    rw [hlen b hb] at hlb
    rw [upd_A, upd_A]
    exact hab hla hlb
  · intro q' hq'
    obtain ⟨q, hq, rfl⟩ := List.mem_map.1 hq'
    have hbq := h.bytes q hq
    unfold upd
    split
    · intro b hb'
      unfold put at hb'
      rcases List.mem_append.1 hb' with h1 | h1
      · rcases List.mem_append.1 h1 with h2 | h2
        · exact hbq b (List.mem_of_mem_take h2)
        · exact hbs b h2
      · exact hbq b (List.mem_of_mem_drop h1)
    · exact hbq
end Go.Proofs.Ythmeojeehemlaaa.Mem
