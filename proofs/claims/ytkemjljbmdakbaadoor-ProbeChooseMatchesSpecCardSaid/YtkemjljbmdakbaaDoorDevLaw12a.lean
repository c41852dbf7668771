import Derived.Test.YtkemjljbmdakbaaDoorFacts
import Derived.Test.YtkemjljbmdakbaaDoorDevChooseLaw
import Derived.Test.YtkemjljbmdakbaaDoorDevInk
namespace Go.Proofs.YtkemjljbmdakbaaDoor
open Go Go.Vc
theorem inkNil (q : Nat) : Clo (NilB q) (.agg [.nilsl]) (.agg [.osl q 0 0 0]) := .agg _ _ rfl (fun i x y h1 h2 => by cases i <;> simp at h1 h2; subst h1; subst h2; exact NilB.cl)

def toldT (l : List Nat) (e : Nat) : List UInt8 := tInt (l.length : Nat) ++ tInts l ++ tInt (e : Int)

theorem toldInts_ok (G : List (Nat × V)) (hG2 : G.lookup 2 = some gP10) (l : List Nat) (hl : l.length ≤ 1000000000) (hx : ∀ x ∈ l, x ≤ 9223372036854775807) (e : Nat) (he : e ≤ 1000) : OkP Tryd.prog G 5 [eNats l, .int .i64 (e : Nat)] (.str (toldT l e)) := by
  refine Ok.of_sat (c := _) ⟨Tryd.func5, by kernel_rfl, rfl⟩ (n := 16) rfl (by simp) rfl fun C hG hn => ?_
  subst hG
  refine Sat.seq ?_
  refine rg hn ?_
  refine Sp pa ?_
  refine OpsS.nil (?_ : Sat _ _ _ _ _)
  refine Sat.seq ?_
  refine rg hn ?_
  refine Sp (pbu pl40 ze40) ?_
  refine Sbx (fun q1 => ?_)
  refine Sp pa ?_
  refine OpsS.nil (?_ : Sat _ _ _ _ _)
  refine Sat.seq ?_
  refine Sat.adoptC 1 5 (fun q => [(0, eNats l), (1, .int .i64 (e : Nat)), (5, .own q1 0 0 0)]) (fun q => [(q1, .row 0 1 40 [.agg [.osl q 0 0 0]])]) (fun q => ⟨⟨_, rfl, .refl _⟩, ⟨_, rfl, .refl _⟩, ⟨_, rfl, .refl _⟩, trivial⟩) (fun q => .row1 (inkNil q) .nil) fun q => ?_
  refine Sat.perm (inkO q1 q 0 []) (List.Perm.swap _ _ _) ?_
  refine rg hn ?_
  refine Sp pm ?_
  refine Sp pm ?_
  refine Sc (inkO q1 q 0 []) [] fb12 (hok := inkInts_ok _ hG2 q1 q 0 [] (by simp) l hl hx) (h := fun r obj' hQ => ?_)
  obtain ⟨ver1, rfl, rfl⟩ := hQ
  have h1 := tInt_len (i := (l.length : Nat)) (by omega) (by omega)
  have h2 := tInts_len l hx
  have hbl : ([] ++ tInt (l.length : Nat) ++ tInts l).length ≤ 900000000000 := by simp at h1 h2 ⊢; omega
  refine OpsS.nil (?_ : Sat _ _ _ _ _)
  refine Sat.seq ?_
  refine rg hn ?_
  refine Sp pm ?_
  refine Sp pm ?_
  refine Sc (inkO q1 q ver1 _) [] fb13 (hok := inkErrno_ok _ hG2 q1 q ver1 _ hbl (e : Nat) (by omega) (by omega)) (h := fun r obj' hQ => ?_)
  obtain ⟨ver2, rfl, rfl⟩ := hQ
  refine OpsS.nil (?_ : Sat _ _ _ _ _)
  refine Sat.seq ?_
  refine rg hn ?_
  refine Sp pm ?_
  refine Sc (inkO q1 q ver2 _) [] fb14 (hok := inkTold_ok _ q1 q ver2 _) (h := fun r obj' hQ => ?_)
  obtain ⟨rfl, rfl⟩ := hQ
  refine Sp pa ?_
  refine OpsS.letgo [] (List.nil_sublist _) ?_
  refine OpsS.nil (?_ : Sat _ _ _ _ _)
  refine Sat.ret (?_ : Vc.Fin _ _ _ _)
  exact fi (hq := ⟨by simp [packR, toldT], rfl⟩)

theorem chooses_ok (G : List (Nat × V)) (hG : G.lookup 1 = some gD64) : OkP Tryd.prog G 7 [] (.bool true) := by
  refine Ok.of_sat (c := _) ⟨Tryd.func7, by kernel_rfl, rfl⟩ (n := 23) rfl (by simp) rfl fun C hG hn => ?_
  subst hG
  refine Sat.seq ?_
  refine rg hn ?_
  refine Sp pa ?_
  refine OpsS.nil (?_ : Sat _ _ _ _ _)
  refine Sat.seq ?_
  refine rg hn ?_
  refine Sp (pS ty31 sz4 ze4) ?_
  refine Sp (pS ty31 sz4 ze4) ?_
  refine Sp (pS ty22 sz31 ze31) ?_
  refine Sp (pc (r := .tuple [eNats [2], .int .i64 ((0 : Nat) : Int)]) fb4 (hok := by
    have h := choose_ok _ hG [[true, false, true], [false, true, true]] (by decide) (by decide)
    rwa [chooses_law.1, chooses_law.2] at h)) ?_
  refine Sp pm ?_
  refine Sp px ?_
  refine Sp px ?_
  refine Sp pa ?_
  refine Sp pa ?_
  refine OpsS.nil (?_ : Sat _ _ _ _ _)
  refine Sat.seq ?_
  refine rg hn ?_
  refine Sp pm ?_
  refine Sp (pb (h := BinR.eql)) ?_
  refine Sp pm ?_
  first | refine Sk ?_ | refine Sp pm ?_
  first | refine Sk ?_ | refine Sp (pL ty23) ?_
  first | refine Sk ?_ | refine Sp (pb (h := BinR.eql)) ?_
  refine Sp pk ?_
  refine Sp pm ?_
  first | refine Sk ?_ | refine Sp pm ?_
  first | refine Sk ?_ | refine Sp (piS ty23 sz3) ?_
  first | refine Sk ?_ | refine Sp (plR ty3 (hi := rfl)) ?_
  first | refine Sk ?_ | refine Sp (pb (h := BinR.eql)) ?_
  refine Sp pk ?_
  refine Sp pa ?_
  refine OpsS.nil (?_ : Sat _ _ _ _ _)
  refine Sat.ret (?_ : Vc.Fin _ _ _ _)
  exact fi (hq := ⟨rfl, rfl⟩)

theorem law_ok (G : List (Nat × V)) (hG : G.lookup 1 = some gD64) (hG2 : G.lookup 2 = some gP10) (m : List (List Bool)) (hm : m.length ≤ 9223372036854775807) (hr : ∀ r ∈ m, r.length ≤ 9223372036854775807) : OkP Tryd.prog G 3 [eM m] (.bool true) := by
  refine Ok.of_sat (c := _) ⟨Tryd.func3, by kernel_rfl, rfl⟩ (n := 45) rfl (by simp) rfl fun C hG hn => ?_
  subst hG
  obtain ⟨hch, hlst⟩ := choice_eq m
  have hbl16 : (chI m).length ≤ 16 := by
    rw [chI]; split
    · simp
    · exact bl_len _
  have hb16 : ∀ x ∈ chI m, x ≤ 9223372036854775807 := by
    intro x hx
    rw [chI] at hx; split at hx
    · simp at hx
    · have := ((mem_bl _ _).1 hx).1; omega
  have hcE : chE m ≤ 3 := by rw [chE]; split <;> (try split) <;> omega
  refine Sat.seq ?_
  refine rg hn ?_
  refine Sp pa ?_
  refine OpsS.nil (?_ : Sat _ _ _ _ _)
  refine Sat.seq ?_
  refine rg hn ?_
  refine Sp pm ?_
  refine Sp (pc fb4 (hok := choose_ok _ hG m hm hr)) ?_
  refine Sp pm ?_
  refine Sp px ?_
  refine Sp px ?_
  refine Sp pa ?_
  refine Sp pa ?_
  refine OpsS.nil (?_ : Sat _ _ _ _ _)
  refine Sat.seq ?_
  refine Sat.seq ?_
  refine rg hn ?_
  refine Sp pm ?_
  refine Sp pm ?_
  refine Sp (pc fb5 (hok := toldInts_ok _ hG2 (chI m) (by omega) hb16 (chE m) (by omega))) ?_
  refine Sp pm ?_
  refine Sp (pc fb6 (hok := hch ▸ chooseR_ok _ m hm hr)) ?_
  refine Sp px ?_
  refine Sp px ?_
  refine Sp (pc fb5 (hok := toldInts_ok _ hG2 (chI m) (by omega) hb16 (chE m) (by omega))) ?_
  refine Sp (pb (h := BinR.sneq)) ?_
  refine OpsS.nil (?_ : Sat _ _ _ _ _)
  refine cB (fun hc19 => ?_) (fun hc19 => ?_)
  ·
    simp at hc19
  ·
    refine Sat.skip (?_ : Sat _ _ _ _ _)
    refine Sat.seq ?_
    refine Sat.seq ?_
    refine rg hn ?_
    refine Sp pm ?_
    refine Sp (pb (h := BinR.neq)) ?_
    refine OpsS.nil (?_ : Sat _ _ _ _ _)
    refine cD (fun hc21 => ?_) (fun hc21 => ?_)
    ·
      refine Sat.seq ?_
      refine rg hn ?_
      refine Sp (pc fb7 (hok := chooses_ok _ hG)) ?_
      refine Sp pa ?_
      refine OpsS.nil (?_ : Sat _ _ _ _ _)
      refine Sat.ret (?_ : Vc.Fin _ _ _ _)
      exact fi (hq := ⟨rfl, rfl⟩)
    ·
      have h0 : chE m = 0 := by omega
      have hls := hlst h0
      obtain ⟨hw16, hrw⟩ := chE_facts h0
      have henr : ∀ r ∈ m, r.length ≤ 9223372036854775807 ∧ ∀ k ∈ chI m, k < r.length := fun r hr' => ⟨hr r hr', fun k hk => by rw [hrw r hr']; exact hls.up.2 k hk⟩
      refine Sat.skip (?_ : Sat _ _ _ _ _)
      refine Sat.seq ?_
      refine Sat.seq ?_
      refine rg hn ?_
      refine Sp pm ?_
      refine Sp pm ?_
      refine Sp (pc fb8 (hok := hls.en ▸ enough_ok _ m (chI m) hm (by omega) henr)) ?_
      refine Sp pnot ?_
      refine OpsS.nil (?_ : Sat _ _ _ _ _)
      refine cF ?_
      refine Sat.skip (?_ : Sat _ _ _ _ _)
      refine Sat.seq ?_
      refine Sat.seq ?_
      refine rg hn ?_
      refine Sp pa ?_
      refine OpsS.nil (?_ : Sat _ _ _ _ _)
      refine Sat.block ?_
      refine Sat.loop (α := Nat) (fun k => ⟨[(0, eM m), (3, eNats (chI m)), (5, .int .i64 (k : Nat))], []⟩) (fun k => k ≤ (chI m).length) (fun k => (chI m).length - k) (0) (by first | trivial | omega | (simp; done)) (by repeat (first | exact trivial | refine And.intro (by rfl) ?_)) (rfl) (fun i hi => ?_)
      refine Sat.seq ?_
      refine Sat.seq ?_
      refine rg hn ?_
      refine Sp pm ?_
      refine Sp pm ?_
      first | refine Sp (pL ty23) ?_ | refine Sp (pLO 0 ty23) ?_
      refine Sp (pb (h := BinR.lss)) ?_
      refine OpsS.nil (?_ : Sat _ _ _ _ _)
      refine cD (fun hc30 => ?_) (fun hc30 => ?_)
      ·
        simp only [List.length_map] at hc30
        have hil : i < (chI m).length := by omega
        have hno := choice_min hls i hil
        refine Sat.skip (?_ : Sat _ _ _ _ _)
        refine Sat.seq ?_
        refine Sat.block ?_
        refine Sat.seq ?_
        refine Sat.reserve 1 fun q => ?_
        refine dr [0, 0, 0, 0, 2, 0, 0, 0, 0, 2, 1] mixed hn ?_
        refine Df (fun _ => pm) ?_
        refine Df (fun _ => pm) ?_
        refine Df (fun _ => pm) ?_
        refine Df (fun _ => (pslS 0 i ty23 sz3 (hl := bnd0) (hh := bndI))) ?_
        refine De (ean 0 ty23 sz3 ze3 (hsrc := srcS ty23 (hc := fun d hd => eNat_cells _ d (List.mem_of_mem_drop (List.mem_of_mem_take hd))))) ?_
        refine Df (fun _ => pm) ?_
        refine Df (fun _ => pm) ?_
        refine Df (fun _ => (pb (h := (BinR.add (inI (by omega) (by omega)))))) ?_
        refine Df (fun _ => (pslS (i + 1) (chI m).length ty23 sz3 (hl := bndI) (hh := by simp [bndV]))) ?_
        refine De (eap 0 ty23 sz3 ze3 (hsrc := srcS ty23 (hc := fun d hd => eNat_cells _ d (List.mem_of_mem_drop (List.mem_of_mem_take hd))))) ?_
        refine Dp (pcv fb8 (r := .bool false) (ds' := [eM m, eNats ((chI m).take i ++ (chI m).drop (i + 1))]) (hok := hno ▸ enough_ok _ m _ hm (by simp; omega) (fun r hr' => ⟨hr r hr', fun k hk => (henr r hr').2 k (by
          rcases List.mem_append.1 hk with h | h
          · exact List.mem_of_mem_take h
          · exact List.mem_of_mem_drop h)⟩)) (hcl := by exact ⟨.refl _, ViewB.all (e := 3) (elems := ((chI m).take i ++ (chI m).drop (i + 1)).map eNat) 0 (by show some (q, AObj.row _ _ _ _) = some (q, AObj.row _ _ _ _); simp [List.map_take, List.map_drop, List.take_of_length_le]) (by first | (simp; done) | (simp; omega)), rfl⟩)) ?_
        refine OpsD.nil (?_ : Sat _ _ _ _ _)
        refine cF ?_
        refine Sat.skip (?_ : Sat _ _ _ _ _)
        refine Sat.letgo [] (List.nil_sublist _) ?_
        refine rg hn ?_
        refine Sp pm ?_
        refine Sp (pb (h := (BinR.add (inI (by omega) (by omega))))) ?_
        refine Sp pa ?_
        refine OpsS.nil (?_ : ∃ _, _)
        refine ⟨i + 1, by omega, by omega, by repeat (first | exact trivial | refine And.intro (by rfl) ?_), rfl⟩
      ·
        refine Sat.exit (?_ : Sat _ _ _ _ _)
        refine Sat.seq ?_
        refine rg hn ?_
        refine Sp (pc fb7 (hok := chooses_ok _ hG)) ?_
        refine Sp pa ?_
        refine OpsS.nil (?_ : Sat _ _ _ _ _)
        refine Sat.ret (?_ : Vc.Fin _ _ _ _)
        exact fi (hq := ⟨rfl, rfl⟩)
end Go.Proofs.YtkemjljbmdakbaaDoor
