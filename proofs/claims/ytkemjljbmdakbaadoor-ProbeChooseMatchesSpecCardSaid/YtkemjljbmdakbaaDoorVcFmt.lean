/-
  The decimal writer of the kit's shelf as a contract of this layer.
-/
import Derived.Test.YtkemjljbmdakbaaDoorVcArith
import Derived.Lib.Itoa
import Derived.Lib.ItoaMem
import Derived.Lib.ItoaNum
import Derived.Sort.Row
namespace Go.Vc
open Go.Sort Go.Lib

def encB (b : UInt8) : Value := Value.int .u8 (b.toNat : Int)
def zeroB : V := .int .u8 0

theorem fmt_ok {P : Program} {G : List (Nat × V)} {f : FuncId} {u n : Nat} {T : TypeId} (hn : n = nDigits u) (h24 : n ≤ 24)
    (hf : ∀ (blk off cap : Nat) (d : Array UInt8) (w : World), d.size = n → Go.Sort.Holds encB w blk off d →
      Calls P f #[.slice (some ⟨blk, off, none⟩) d.size cap, .int .u64 u] w fun e w' => e = .returned (.tuple #[]) ∧ ∃ (k v' : Nat) (dk : Array UInt8), w' = (putRow encB w blk off dk).drewN k ∧ FmtInv d.size u 0 v' dk) (h0 : 0 < n) (q : Nat) :
    Ok P G f [.osl q 0 0 n, .int .u64 u] [(q, .row 0 1 T (List.replicate 24 zeroB))] (fun r o => r = .tuple [] ∧ o = [(q, .row 0 1 T ((decDigits u).map byteV ++ List.replicate (24 - n) zeroB))]) := by
  intro E vs w pb h1 h2 h3 h4
  obtain ⟨v0, v1, rfl⟩ : ∃ a b, vs = [a, b] := by
    match vs, h1 with
    | [a, b], _ => exact ⟨a, b, rfl⟩
  have hr0 := h2 0 _ _ rfl rfl
  have hr1 := h2 1 _ _ rfl rfl
  cases hr1
  obtain ⟨l, hl, hver, hs, hcase⟩ := h3.objs q (.row 0 1 T (List.replicate 24 zeroB)) (List.mem_singleton.2 rfl)
  rcases hcase with ⟨_, h5⟩ | ⟨b, cur, hb, hc, hz, hfit, hone, hde, hr⟩
  · simp at h5
  cases hr0 with
  | osl _ _ _ _ l' v hm hvv h6 h7 =>
    obtain rfl : l = l' := by simpa [hl] using hm
    rcases h7 hver.symm with ⟨_, h8, _⟩ | ⟨b', o, cap, hb', rfl, hlc, hcm, hcap⟩
    · omega
    rw [hb] at hb'; cases hb'
    have ho : o = l.base := by
      rcases hcap with hcap | ⟨hcap, _⟩
      · omega
      · simpa using hcap
    subst ho
    have h24' : l.base + 24 ≤ cur.size := by
      have := hfit; simp [hs] at this; omega
    have hcell : ∀ j, j < 24 → cur[l.base + j]? = some (encB 0) := by
      intro j hj
      obtain ⟨v, hv, hrv⟩ := hr j 0 zeroB zeroB (by rw [List.getElem?_replicate, if_pos hj]) rfl
      simp only [hs, Nat.mul_one, Nat.add_zero] at hv
      rw [hv]
      cases hrv; rfl
    have hH : Go.Sort.Holds encB w b l.base (Array.replicate n (0 : UInt8)) := by
      intro j hj
      have hj' : j < n := by simpa using hj
      refine ⟨?_, by simp [World.frozen?, hc]⟩
      simp only [World.cell?, hc]
      show cur[l.base + j]? = _
      rw [hcell j (by omega), getElem!_pos _ j hj]
      simp
    have hcall := hf b l.base cap (Array.replicate n (0 : UInt8)) w (by simp) hH
    simp only [Array.size_replicate] at hcall
    refine hcall.mono ?_
    rintro e w' ⟨rfl, k, v', dk, rfl, hinv⟩
    have hdk : dk.size = n := hinv.size
    have hnum : ∀ j (hj : j < n), ∃ x, (decDigits u)[j]? = some x ∧ dk[j]! = x := by
      intro j hj
      have hj' : j < (decDigits u).length := by rw [decDigits_length, ← hn]; exact hj
      rw [hn] at hinv
      exact ⟨_, List.getElem?_eq_getElem hj', (row_is_numeral hinv j hj').symm⟩
    have hlt : b < w.heap.size := (Array.getElem?_eq_some_iff.1 hc).1
    have hheap : ((putRow encB w b l.base dk).drewN k).heap[b]? = some (.cells (putCells encB l.base dk cur) T (0, 0)) := by
      show (w.heap.modify b _)[b]? = _
      rw [Array.getElem?_modify, if_pos rfl, hc]
      rfl
    have hle : E.le (E.setm q l) := Env.le_setm fun l1 h1 => by rw [hl] at h1; cases h1; exact ⟨rfl, Nat.le_refl _, fun _ => rfl⟩
    have hput : ∀ j, (putCells encB l.base dk cur)[j]? = (cur[j]?).map fun x => if l.base ≤ j ∧ j < l.base + dk.size then encB dk[j - l.base]! else x := by
      intro j
      unfold putCells
      rw [Array.getElem?_mapIdx]
    refine ⟨_, .tuple [], _, E.setm q l, rfl, ⟨rfl, rfl⟩, .tuple [] [] rfl (by simp), ?_⟩
    have hdl : (decDigits u).length = n := by rw [decDigits_length, hn]
    refine h3.upd (k := 0) rfl hl rfl (Nat.le_refl _) (fun _ => rfl) (.inl rfl) ?_ ?_
    · rw [hb]
      refine ⟨rfl, rfl, rfl, ?_, fun i hi hne => ?_⟩
      · show w.heap.size ≤ (w.heap.modify b _).size
        rw [Array.size_modify]; exact Nat.le_refl _
      · show (w.heap.modify b _)[i]? = _
        rw [Array.getElem?_modify, if_neg (fun e => hne (by rw [e]))]
    · refine ⟨hver, hs, .inr ⟨b, _, hb, hheap, ?_, ?_, ?_, ?_, ?_⟩⟩
      · rw [← hz]; simp [putCells]
      · rw [hs]
        have := hfit
        simp only [List.length_replicate, hs] at this
        simp only [List.length_append, List.length_map, List.length_replicate, hdl]
        omega
      · intro j v hv
        rw [hput] at hv
        cases hcj : cur[j]? with
        | none => rw [hcj] at hv; cases hv
        | some x =>
          rw [hcj] at hv
          simp only [Option.map_some, Option.some.injEq] at hv
          subst hv
          split
          · rfl
          · exact hone j x hcj
      · intro j d hd
        rw [hs]
        rcases List.mem_append.1 (List.mem_of_getElem? hd) with hm | hm
        · obtain ⟨x, _, rfl⟩ := List.mem_map.1 hm; rfl
        · rw [List.eq_of_mem_replicate hm]; rfl
      · intro j c d x hd hx
        have hjlen := (List.getElem?_eq_some_iff.1 hd).1
        simp only [List.length_append, List.length_map, List.length_replicate, hdl] at hjlen
        have hone1 : d.cells = [d] := by
          rcases List.mem_append.1 (List.mem_of_getElem? hd) with hm | hm
          · obtain ⟨y, _, rfl⟩ := List.mem_map.1 hm; rfl
          · rw [List.eq_of_mem_replicate hm]; rfl
        rw [hone1] at hx
        cases c with
        | succ c => simp at hx
        | zero =>
          simp at hx; subst hx
          rw [hs, Nat.mul_one, Nat.add_zero, hput, hcell j (by omega)]
          rw [List.getElem?_append] at hd
          simp only [List.length_map, hdl] at hd
          split at hd
          · rename_i hjn
            obtain ⟨y, hy1, hy2⟩ := hnum j hjn
            rw [List.getElem?_map, hy1] at hd
            simp at hd; subst hd
            refine ⟨encB y, ?_, .int _ _⟩
            rw [hdk]
            simp only [Option.map_some]
            rw [if_pos (by omega), show l.base + j - l.base = j by omega, hy2]
          · rename_i hjn
            rw [List.getElem?_replicate] at hd
            split at hd
            · simp at hd; subst hd
              refine ⟨encB 0, ?_, .int _ _⟩
              simp only [Option.map_some]
              rw [if_neg (by omega)]
            · cases hd

end Go.Vc
