/-
Layer 11: the callees, one by one.
-/
import Derived.Test.YtdmlojinmkcldaaDoorLD
import Derived.Test.YtdmlojinmkcldaaDoorSA
namespace Go.Proofs.YtdmlojinmkcldaaDoor
open Go.ChangeShapes Go.WideShapes Go.RowKit
namespace V

noncomputable abbrev K1 : Callees := upd noCallees 18 numV
noncomputable abbrev K2 : Callees := upd K1 19 (runV T K1 fi19)
noncomputable abbrev K3 : Callees := upd K2 20 (runV T K2 fi20)
noncomputable abbrev K4 : Callees := upd K3 56 (runV T K3 fi56)
noncomputable abbrev K5 : Callees := upd K4 17 (runV T K4 fi17)
noncomputable abbrev K6 : Callees := upd K5 15 (runV T K5 fi15)
noncomputable abbrev K7 : Callees := upd K6 57 (runV T K6 fi57)
noncomputable abbrev K8 : Callees := upd K7 16 (runV T K7 fi16)
noncomputable abbrev K9 : Callees := upd K8 14 (runV T K8 fi14)

theorem k9_ok {c : Cx} (hP : c.P = Tryd.prog) (hl : laidAt c) : CallOK c K9 :=
  CallOK.more hP (CallOK.more hP (CallOK.more hP (CallOK.more hP (CallOK.more hP (CallOK.more hP (CallOK.more hP (CallOK.more hP (num_ok hP hl CallOK.none)
    ok19) ok20) ok56) ok17) ok15) ok57) ok16) ok14

theorem known11_k8 : Known11 K8 where
  split l d bes B hd := upd_skip rfl (upd_skip rfl (upd_hit (run15_sl K5 (fun l p B h => upd_skip rfl (upd_hit (run56 K3 l p B h))) (fun n B => upd_skip rfl (upd_skip rfl (upd_hit (run20 K2 n B)))) l d hd bes B)))
  most n B := upd_skip rfl (upd_skip rfl (upd_skip rfl (upd_hit (run17 K4 n B))))
  enough n B := upd_skip rfl (upd_skip rfl (upd_skip rfl (upd_skip rfl (upd_skip rfl (upd_skip rfl (upd_hit (run19 K1 n B)))))))
  fits n B := upd_skip rfl (upd_skip rfl (upd_skip rfl (upd_skip rfl (upd_skip rfl (upd_hit (run20 K2 n B))))))
  numN _ := upd_skip rfl (upd_skip rfl (upd_skip rfl (upd_skip rfl (upd_skip rfl (upd_skip rfl (upd_skip rfl (upd_hit rfl)))))))
  numE _ _ := upd_skip rfl (upd_skip rfl (upd_skip rfl (upd_skip rfl (upd_skip rfl (upd_skip rfl (upd_skip rfl (upd_hit rfl)))))))
  ref l d bes B hd := upd_hit (run16_sl K7 l d hd bes B (fun q at_ h1 h2 h3 => upd_hit (run57 K6 l q bes at_ B h1 h2 h3)))

theorem known11_k9 : Known11 K9 where
  split l d bes B hd := upd_skip rfl (known11_k8.split l d bes B hd)
  most n B := upd_skip rfl (known11_k8.most n B)
  enough n B := upd_skip rfl (known11_k8.enough n B)
  fits n B := upd_skip rfl (known11_k8.fits n B)
  numN B := upd_skip rfl (known11_k8.numN B)
  numE n B := upd_skip rfl (known11_k8.numE n B)
  ref l d bes B hd := upd_skip rfl (known11_k8.ref l d bes B hd)

theorem k9_sure (B : Hp) : K9 14 [] B = some (.bool true, B) := upd_hit (run14 K8 known11_k8 B)

end V
end Go.Proofs.YtdmlojinmkcldaaDoor
