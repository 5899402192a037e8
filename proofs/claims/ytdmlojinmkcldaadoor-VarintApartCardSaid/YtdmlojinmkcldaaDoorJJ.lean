/-
Layer 3: the callees, one by one.
-/
import Derived.Test.YtdmlojinmkcldaaDoorJI
import Derived.Test.YtdmlojinmkcldaaDoorJM
import Derived.Test.YtdmlojinmkcldaaDoorSA
namespace Go.Proofs.YtdmlojinmkcldaaDoor
open Go.ChangeShapes Go.WideShapes Go.RowKit
namespace V

noncomputable abbrev J1 : Callees := upd noCallees 48 numV
noncomputable abbrev J2 : Callees := upd J1 62 (runV T J1 fi62)
noncomputable abbrev J3 : Callees := upd J2 49 (runV T J2 fi49)
noncomputable abbrev J4 : Callees := upd J3 46 (runV T J3 fi46)
noncomputable abbrev J5 : Callees := upd J4 50 (runV T J4 fi50)
noncomputable abbrev J6 : Callees := upd J5 47 (runV T J5 fi47)
noncomputable abbrev J7 : Callees := upd J6 63 (runV T J6 fi63)
noncomputable abbrev J8 : Callees := upd J7 51 (runV T J7 fi51)
noncomputable abbrev J9 : Callees := upd J8 52 (runV T J8 fi52)
noncomputable abbrev J10 : Callees := upd J9 54 (runV T J9 fi54)
noncomputable abbrev J11 : Callees := upd J10 53 (runV T J10 fi53)
noncomputable abbrev J12 : Callees := upd J11 55 (runV T J11 fi55)
noncomputable abbrev J13 : Callees := upd J12 45 (runV T J12 fi45)
theorem jok {c : Cx} (hP : c.P = Tryd.prog) (hl : laidAt c) : CallOK c J13 := by
  have h1 : CallOK c J1 := num_ok hP hl CallOK.none
  have h2 : CallOK c J2 := CallOK.more hP h1 ok62
  have h3 : CallOK c J3 := CallOK.more hP h2 ok49
  have h4 : CallOK c J4 := CallOK.more hP h3 ok46
  have h5 : CallOK c J5 := CallOK.more hP h4 ok50
  have h6 : CallOK c J6 := CallOK.more hP h5 ok47
  have h7 : CallOK c J7 := CallOK.more hP h6 ok63
  have h8 : CallOK c J8 := CallOK.more hP h7 ok51
  have h9 : CallOK c J9 := CallOK.more hP h8 ok52
  have h10 : CallOK c J10 := CallOK.more hP h9 ok54
  have h11 : CallOK c J11 := CallOK.more hP h10 ok53
  have h12 : CallOK c J12 := CallOK.more hP h11 ok55
  have h13 : CallOK c J13 := CallOK.more hP h12 ok45
  exact h13

theorem known03_j12 : Known03 J12 where
  put d l v B hd hv hl := by (repeat refine upd_skip rfl ?_); exact upd_hit (run49 J2 (fun l p B h => upd_hit (run62_vec J1 l p B h)) (fun B => upd_hit (run62_nil J1 B)) d l hd v hv B hl)
  rput d l v B hd hv hl := by (repeat refine upd_skip rfl ?_); exact upd_hit (run50 J4 d l hd v hv B hl)
  get d l B hd := by (repeat refine upd_skip rfl ?_); exact upd_hit (run46 J3 d l hd B)
  rget d l B hd hl := by (repeat refine upd_skip rfl ?_); exact upd_hit (run47 J5 d l hd B hl)
  size v B hv := by (repeat refine upd_skip rfl ?_); exact upd_hit (run51 J7 (fun v B hv => upd_hit (run63 J6 v hv B)) v hv B)
  zig n B h0 h1 := by (repeat refine upd_skip rfl ?_); exact upd_hit (run52 J8 n h0 h1 B)
  zag v B hv := by (repeat refine upd_skip rfl ?_); exact upd_hit (run54 J9 v hv B)
  rzig n B h0 h1 := by (repeat refine upd_skip rfl ?_); exact upd_hit (run53 J10 n h0 h1 B)
  rzag v B hv := by (repeat refine upd_skip rfl ?_); exact upd_hit (run55 J11 v hv B)
  num n B := by
    (repeat refine upd_skip rfl ?_)
    rcases errD_cases n with ⟨rfl, h⟩ | ⟨_, h⟩ <;> rw [h] <;> exact upd_hit rfl

theorem known03_j13 : Known03 J13 where
  put d l v B hd hv hl := upd_skip rfl (known03_j12.put d l v B hd hv hl)
  rput d l v B hd hv hl := upd_skip rfl (known03_j12.rput d l v B hd hv hl)
  get d l B hd := upd_skip rfl (known03_j12.get d l B hd)
  rget d l B hd hl := upd_skip rfl (known03_j12.rget d l B hd hl)
  size v B hv := upd_skip rfl (known03_j12.size v B hv)
  zig n B h0 h1 := upd_skip rfl (known03_j12.zig n B h0 h1)
  zag v B hv := upd_skip rfl (known03_j12.zag v B hv)
  rzig n B h0 h1 := upd_skip rfl (known03_j12.rzig n B h0 h1)
  rzag v B hv := upd_skip rfl (known03_j12.rzag v B hv)
  num n B := upd_skip rfl (known03_j12.num n B)

theorem j13_sure (B : Hp) : J13 45 [] B = some (.bool true, B) := upd_hit (run45 J12 known03_j12 B)

end V
end Go.Proofs.YtdmlojinmkcldaaDoor
